/- Contracts of functions that the law reaches: what each call comes to, as a Lean function says it. Conditions: as each theorem states them. Written by wip/tools/refit.py out of the kit's print; the walks are turned where the print's own stop. -/
import Derived.Test.YtnjdimemiojoaaaFtx0
import Derived.Test.YtnjdimemiojoaaaFtx1
import Derived.Test.YtnjdimemiojoaaaFtx2
import Derived.Test.YtnjdimemiojoaaaFtx3
namespace Go.Proofs.Ytnjdimemiojoaaa.Ft
open Go.RowKit Go.Proofs.YtnjdimemiojoaaaW.PrintWords Go.Proofs.YtnjdimemiojoaaaW.PrintLast Go.Proofs.YtnjdimemiojoaaaW.PrintMore
attribute [local go_sem] max2_int min2_int max_two min_two max_three min_three max_four min_four   -- for this text's walks alone
set_option linter.unusedVariables false
set_option linter.unusedSimpArgs false

/-! ### broadsheetlaw27_FairTells: function 3 -/
mutual
def broadsheetlaw27_FairTells.l0 : Nat → Int → List Int → Int → Int → Int → Int → List (S32) → Int → Int → Int → Int → Int → Int → Int → Int → ByteArray → Option (Bool)
  | 0, _, _, _, _, _, _, _, _, _, _, _, _, _, _, _, _ => none
  | k + 1, x0, x1, x2, x3, x4, x5, x15, x16, x169000, x169001, x169002, x169003, x169004, x169005, x169006, x169007 => if x16 < (x1.length : Int) then (broadsheetlaw27_FairTells.j1 k x0 x1 x2 x3 x4 x5 x15 x16 (decide (x16 < 4)) x169000 x169001 x169002 x169003 x169004 x169005 x169006 x169007) else (broadsheetlaw27_FairTells.j1 k x0 x1 x2 x3 x4 x5 x15 x16 false x169000 x169001 x169002 x169003 x169004 x169005 x169006 x169007)
def broadsheetlaw27_FairTells.j1 : Nat → Int → List Int → Int → Int → Int → Int → List (S32) → Int → Bool → Int → Int → Int → Int → Int → Int → Int → ByteArray → Option (Bool)
  | 0, _, _, _, _, _, _, _, _, _, _, _, _, _, _, _, _, _ => none
  | k + 1, x0, x1, x2, x3, x4, x5, x15, x16, x28, x169000, x169001, x169002, x169003, x169004, x169005, x169006, x169007 => if x28 = true then (if 0 ≤ x16 then (if x16 < (x1.length : Int) then ((fair_Round.f k x0 (rd x1 x16)).bind fun t170 => ((broadsheetlaw27_round.f k (rd x1 x16)).bind fun t174 => ((broadsheetlaw27_same.f k t170 t174).bind fun t177 => (if t177 = true then (if x15.length + t170.length < 2513169434916 then (broadsheetlaw27_FairTells.l0 k x0 x1 x2 x3 x4 x5 (x15 ++ t170) (wrap64 (x16 + 1)) x169000 x169001 x169002 x169003 x169004 x169005 x169006 x169007) else (none)) else (some false))))) else (none)) else (none)) else (if (x15.length : Int) > 0 then ((broadsheetbook_Within.f k x2 0 (wrap64 ((x15.length : Int) - 1))).bind fun t181 => ((some (([] : List (S32)) : List (S32))).bind fun y182 => (if y182.length + x15.length < 2513169434916 then ((some (y182 ++ x15 : List (S32))).bind fun y185 => (if x5 = 1 then (if 0 ≤ t181 then (if t181 < (y185.length : Int) then (broadsheetlaw27_FairTells.j2 k x0 (y185.set (t181 : Int).toNat (⟨x3, (rd_T32 y185 t181).f1, (rd_T32 y185 t181).f2, (rd_T32 y185 t181).f3, (rd_T32 y185 t181).f4⟩ : S32)) (((rd_T32 y185 t181).f0) == x3) x169000 x169001 x169002 x169003 x169004 x169005 x169006 x169007) else (none)) else (none)) else (if x5 = 2 then (if 0 ≤ t181 then (if t181 < (y185.length : Int) then (if ((rd_T32 y185 t181).f0) = 9 then (broadsheetlaw27_FairTells.j2 k x0 (y185.set (t181 : Int).toNat (⟨(rd_T32 y185 t181).f0, x4, (rd_T32 y185 t181).f2, (rd_T32 y185 t181).f3, (rd_T32 y185 t181).f4⟩ : S32)) true x169000 x169001 x169002 x169003 x169004 x169005 x169006 x169007) else (if ((rd_T32 y185 t181).f1) = x4 then (broadsheetlaw27_FairTells.j2 k x0 (y185.set (t181 : Int).toNat (⟨(rd_T32 y185 t181).f0, x4, (rd_T32 y185 t181).f2, (rd_T32 y185 t181).f3, (rd_T32 y185 t181).f4⟩ : S32)) true x169000 x169001 x169002 x169003 x169004 x169005 x169006 x169007) else (if ((rd_T32 y185 t181).f0) = 2 then (broadsheetlaw27_FairTells.j2 k x0 (y185.set (t181 : Int).toNat (⟨(rd_T32 y185 t181).f0, x4, (rd_T32 y185 t181).f2, (rd_T32 y185 t181).f3, (rd_T32 y185 t181).f4⟩ : S32)) false x169000 x169001 x169002 x169003 x169004 x169005 x169006 x169007) else (broadsheetlaw27_FairTells.j2 k x0 (y185.set (t181 : Int).toNat (⟨(rd_T32 y185 t181).f0, x4, (rd_T32 y185 t181).f2, (rd_T32 y185 t181).f3, (rd_T32 y185 t181).f4⟩ : S32)) (((rd_T32 y185 t181).f0) != 6) x169000 x169001 x169002 x169003 x169004 x169005 x169006 x169007)))) else (none)) else (none)) else (if x5 = 3 then (if 0 ≤ t181 then (if t181 ≤ (y185.length : Int) then (if 0 ≤ (wrap64 (t181 + 1)) then (if (wrap64 (t181 + 1)) ≤ (y185.length : Int) then (broadsheetlaw27_FairTells.j2 k x0 (y185.eraseIdx (t181 : Int).toNat) false x169000 x169001 x169002 x169003 x169004 x169005 x169006 x169007) else (none)) else (none)) else (none)) else (none)) else (broadsheetlaw27_FairTells.j2 k x0 y185 (decide ((x15.length : Int) > 0)) x169000 x169001 x169002 x169003 x169004 x169005 x169006 x169007))))) else (none)))) else (broadsheetlaw27_FairTells.j2 k x0 x15 (decide ((x15.length : Int) > 0)) x169000 x169001 x169002 x169003 x169004 x169005 x169006 x169007))
def broadsheetlaw27_FairTells.j2 : Nat → Int → List (S32) → Bool → Int → Int → Int → Int → Int → Int → Int → ByteArray → Option (Bool)
  | 0, _, _, _, _, _, _, _, _, _, _, _ => none
  | k + 1, x0, x15, x18, x169000, x169001, x169002, x169003, x169004, x169005, x169006, x169007 => if x169004 ≥ 0 then (broadsheetlaw27_FairTells.j3 k x0 x15 x18 0 (decide (x169004 ≤ 1000)) x169000 x169001 x169002 x169003 x169004 x169005 x169006 x169007) else (broadsheetlaw27_FairTells.j3 k x0 x15 x18 0 false x169000 x169001 x169002 x169003 x169004 x169005 x169006 x169007)
def broadsheetlaw27_FairTells.j3 : Nat → Int → List (S32) → Bool → Int → Bool → Int → Int → Int → Int → Int → Int → Int → ByteArray → Option (Bool)
  | 0, _, _, _, _, _, _, _, _, _, _, _, _, _ => none
  | k + 1, x0, x15, x18, x20, x138, x169000, x169001, x169002, x169003, x169004, x169005, x169006, x169007 => if x138 = true then (broadsheetlaw27_FairTells.j4 k x0 x15 x18 (wrap64 (x20 + x169004)) x169000 x169001 x169002 x169003 x169004 x169005 x169006 x169007) else (broadsheetlaw27_FairTells.j4 k x0 x15 x18 x20 x169000 x169001 x169002 x169003 x169004 x169005 x169006 x169007)
def broadsheetlaw27_FairTells.j4 : Nat → Int → List (S32) → Bool → Int → Int → Int → Int → Int → Int → Int → Int → ByteArray → Option (Bool)
  | 0, _, _, _, _, _, _, _, _, _, _, _, _ => none
  | k + 1, x0, x15, x18, x20, x169000, x169001, x169002, x169003, x169004, x169005, x169006, x169007 => if x169005 ≥ 1 then (broadsheetlaw27_FairTells.j5 k x0 x15 x18 x20 (decide (x169005 ≤ 100)) x169000 x169001 x169002 x169003 x169004 x169005 x169006 x169007) else (broadsheetlaw27_FairTells.j5 k x0 x15 x18 x20 false x169000 x169001 x169002 x169003 x169004 x169005 x169006 x169007)
def broadsheetlaw27_FairTells.j5 : Nat → Int → List (S32) → Bool → Int → Bool → Int → Int → Int → Int → Int → Int → Int → ByteArray → Option (Bool)
  | 0, _, _, _, _, _, _, _, _, _, _, _, _, _ => none
  | k + 1, x0, x15, x18, x20, x150, x169000, x169001, x169002, x169003, x169004, x169005, x169006, x169007 => if x150 = true then ((fair_Fair.f k x0 x15).bind fun t211 => (if (t211 == x18) = true then ((fair_Rounds.f x169000 x169001 x169002 x169003 x169004 x169005 x169006 x169007).bind fun t212 => (if t212 = (wrap64 ((wrap64 ((wrap64 (x20 + (wrap64 (16 * x169005)))) + 32)) + 10)) then ((broadsheetlaw27_known.f k).bind fun t213 => (some t213)) else (some false))) else (some false))) else ((fair_Fair.f k x0 x15).bind fun t214 => (if (t214 == x18) = true then ((fair_Rounds.f x169000 x169001 x169002 x169003 x169004 x169005 x169006 x169007).bind fun t215 => (if t215 = (wrap64 ((wrap64 (x20 + 32)) + 10)) then ((broadsheetlaw27_known.f k).bind fun t216 => (some t216)) else (some false))) else (some false)))
end
def broadsheetlaw27_FairTells.f (k : Nat) (a0 : Int) (l1 : List Int) (a2 : Int) (a3 : Int) (a4 : Int) (a5 : Int) (a6_0 : Int) (a6_1 : Int) (a6_2 : Int) (a6_3 : Int) (a6_4 : Int) (a6_5 : Int) (a6_6 : Int) (a6_7 : ByteArray) : Option (Bool) := broadsheetlaw27_FairTells.l0 k a0 l1 a2 a3 a4 a5 ([] : List (S32)) 0 a6_0 a6_1 a6_2 a6_3 a6_4 a6_5 a6_6 a6_7
theorem broadsheetlaw27_FairTells.mono_l : ∀ k, (∀ y0 y1 y2 y3 y4 y5 y6 y7 y8 y9 y10 y11 y12 y13 y14 y15, LeO (broadsheetlaw27_FairTells.l0 k y0 y1 y2 y3 y4 y5 y6 y7 y8 y9 y10 y11 y12 y13 y14 y15) (broadsheetlaw27_FairTells.l0 (k + 1) y0 y1 y2 y3 y4 y5 y6 y7 y8 y9 y10 y11 y12 y13 y14 y15)) ∧ (∀ y0 y1 y2 y3 y4 y5 y6 y7 y8 y9 y10 y11 y12 y13 y14 y15 y16, LeO (broadsheetlaw27_FairTells.j1 k y0 y1 y2 y3 y4 y5 y6 y7 y8 y9 y10 y11 y12 y13 y14 y15 y16) (broadsheetlaw27_FairTells.j1 (k + 1) y0 y1 y2 y3 y4 y5 y6 y7 y8 y9 y10 y11 y12 y13 y14 y15 y16)) ∧ (∀ y0 y1 y2 y3 y4 y5 y6 y7 y8 y9 y10, LeO (broadsheetlaw27_FairTells.j2 k y0 y1 y2 y3 y4 y5 y6 y7 y8 y9 y10) (broadsheetlaw27_FairTells.j2 (k + 1) y0 y1 y2 y3 y4 y5 y6 y7 y8 y9 y10)) ∧ (∀ y0 y1 y2 y3 y4 y5 y6 y7 y8 y9 y10 y11 y12, LeO (broadsheetlaw27_FairTells.j3 k y0 y1 y2 y3 y4 y5 y6 y7 y8 y9 y10 y11 y12) (broadsheetlaw27_FairTells.j3 (k + 1) y0 y1 y2 y3 y4 y5 y6 y7 y8 y9 y10 y11 y12)) ∧ (∀ y0 y1 y2 y3 y4 y5 y6 y7 y8 y9 y10 y11, LeO (broadsheetlaw27_FairTells.j4 k y0 y1 y2 y3 y4 y5 y6 y7 y8 y9 y10 y11) (broadsheetlaw27_FairTells.j4 (k + 1) y0 y1 y2 y3 y4 y5 y6 y7 y8 y9 y10 y11)) ∧ (∀ y0 y1 y2 y3 y4 y5 y6 y7 y8 y9 y10 y11 y12, LeO (broadsheetlaw27_FairTells.j5 k y0 y1 y2 y3 y4 y5 y6 y7 y8 y9 y10 y11 y12) (broadsheetlaw27_FairTells.j5 (k + 1) y0 y1 y2 y3 y4 y5 y6 y7 y8 y9 y10 y11 y12))
  | 0 => ⟨fun _ _ _ _ _ _ _ _ _ _ _ _ _ _ _ _ r h => by simp [broadsheetlaw27_FairTells.l0] at h, fun _ _ _ _ _ _ _ _ _ _ _ _ _ _ _ _ _ r h => by simp [broadsheetlaw27_FairTells.j1] at h, fun _ _ _ _ _ _ _ _ _ _ _ r h => by simp [broadsheetlaw27_FairTells.j2] at h, fun _ _ _ _ _ _ _ _ _ _ _ _ _ r h => by simp [broadsheetlaw27_FairTells.j3] at h, fun _ _ _ _ _ _ _ _ _ _ _ _ r h => by simp [broadsheetlaw27_FairTells.j4] at h, fun _ _ _ _ _ _ _ _ _ _ _ _ _ r h => by simp [broadsheetlaw27_FairTells.j5] at h⟩
  | k + 1 => by
    obtain ⟨ih0, ih1, ih2, ih3, ih4, ih5⟩ := broadsheetlaw27_FairTells.mono_l k
    refine ⟨?_, ?_, ?_, ?_, ?_, ?_⟩
    · intro y0 y1 y2 y3 y4 y5 y6 y7 y8 y9 y10 y11 y12 y13 y14 y15
      unfold broadsheetlaw27_FairTells.l0
      repeat' first
      | (with_reducible exact ih0 _ _ _ _ _ _ _ _ _ _ _ _ _ _ _ _)
      | (with_reducible exact ih1 _ _ _ _ _ _ _ _ _ _ _ _ _ _ _ _ _)
      | (with_reducible exact ih2 _ _ _ _ _ _ _ _ _ _ _)
      | (with_reducible exact ih3 _ _ _ _ _ _ _ _ _ _ _ _ _)
      | (with_reducible exact ih4 _ _ _ _ _ _ _ _ _ _ _ _)
      | (with_reducible exact ih5 _ _ _ _ _ _ _ _ _ _ _ _ _)
      | (with_reducible exact broadsheetbook_Within.mono _ _ _ _)
      | (with_reducible exact broadsheetlaw27_known.mono _)
      | (with_reducible exact broadsheetlaw27_round.mono _ _)
      | (with_reducible exact broadsheetlaw27_same.mono _ _ _)
      | (with_reducible exact fair_Fair.mono _ _ _)
      | (with_reducible exact fair_Round.mono _ _ _)
      | (with_reducible exact LeO.refl _)
      | (with_reducible exact LeO.none _)
      | (with_reducible refine LeO.ite ?_ ?_)
      | (with_reducible refine LeO.bind ?_ (fun _ => ?_))
      | exact ih0 _ _ _ _ _ _ _ _ _ _ _ _ _ _ _ _
      | exact ih1 _ _ _ _ _ _ _ _ _ _ _ _ _ _ _ _ _
      | exact ih2 _ _ _ _ _ _ _ _ _ _ _
      | exact ih3 _ _ _ _ _ _ _ _ _ _ _ _ _
      | exact ih4 _ _ _ _ _ _ _ _ _ _ _ _
      | exact ih5 _ _ _ _ _ _ _ _ _ _ _ _ _
      | exact broadsheetbook_Within.mono _ _ _ _
      | exact broadsheetlaw27_known.mono _
      | exact broadsheetlaw27_round.mono _ _
      | exact broadsheetlaw27_same.mono _ _ _
      | exact fair_Fair.mono _ _ _
      | exact fair_Round.mono _ _ _
      | exact LeO.none _
      | refine LeO.ite ?_ ?_
      | refine LeO.bind ?_ (fun _ => ?_)
    · intro y0 y1 y2 y3 y4 y5 y6 y7 y8 y9 y10 y11 y12 y13 y14 y15 y16
      unfold broadsheetlaw27_FairTells.j1
      repeat' first
      | (with_reducible exact ih0 _ _ _ _ _ _ _ _ _ _ _ _ _ _ _ _)
      | (with_reducible exact ih1 _ _ _ _ _ _ _ _ _ _ _ _ _ _ _ _ _)
      | (with_reducible exact ih2 _ _ _ _ _ _ _ _ _ _ _)
      | (with_reducible exact ih3 _ _ _ _ _ _ _ _ _ _ _ _ _)
      | (with_reducible exact ih4 _ _ _ _ _ _ _ _ _ _ _ _)
      | (with_reducible exact ih5 _ _ _ _ _ _ _ _ _ _ _ _ _)
      | (with_reducible exact broadsheetbook_Within.mono _ _ _ _)
      | (with_reducible exact broadsheetlaw27_known.mono _)
      | (with_reducible exact broadsheetlaw27_round.mono _ _)
      | (with_reducible exact broadsheetlaw27_same.mono _ _ _)
      | (with_reducible exact fair_Fair.mono _ _ _)
      | (with_reducible exact fair_Round.mono _ _ _)
      | (with_reducible exact LeO.refl _)
      | (with_reducible exact LeO.none _)
      | (with_reducible refine LeO.ite ?_ ?_)
      | (with_reducible refine LeO.bind ?_ (fun _ => ?_))
      | exact ih0 _ _ _ _ _ _ _ _ _ _ _ _ _ _ _ _
      | exact ih1 _ _ _ _ _ _ _ _ _ _ _ _ _ _ _ _ _
      | exact ih2 _ _ _ _ _ _ _ _ _ _ _
      | exact ih3 _ _ _ _ _ _ _ _ _ _ _ _ _
      | exact ih4 _ _ _ _ _ _ _ _ _ _ _ _
      | exact ih5 _ _ _ _ _ _ _ _ _ _ _ _ _
      | exact broadsheetbook_Within.mono _ _ _ _
      | exact broadsheetlaw27_known.mono _
      | exact broadsheetlaw27_round.mono _ _
      | exact broadsheetlaw27_same.mono _ _ _
      | exact fair_Fair.mono _ _ _
      | exact fair_Round.mono _ _ _
      | exact LeO.none _
      | refine LeO.ite ?_ ?_
      | refine LeO.bind ?_ (fun _ => ?_)
    · intro y0 y1 y2 y3 y4 y5 y6 y7 y8 y9 y10
      unfold broadsheetlaw27_FairTells.j2
      repeat' first
      | (with_reducible exact ih0 _ _ _ _ _ _ _ _ _ _ _ _ _ _ _ _)
      | (with_reducible exact ih1 _ _ _ _ _ _ _ _ _ _ _ _ _ _ _ _ _)
      | (with_reducible exact ih2 _ _ _ _ _ _ _ _ _ _ _)
      | (with_reducible exact ih3 _ _ _ _ _ _ _ _ _ _ _ _ _)
      | (with_reducible exact ih4 _ _ _ _ _ _ _ _ _ _ _ _)
      | (with_reducible exact ih5 _ _ _ _ _ _ _ _ _ _ _ _ _)
      | (with_reducible exact broadsheetbook_Within.mono _ _ _ _)
      | (with_reducible exact broadsheetlaw27_known.mono _)
      | (with_reducible exact broadsheetlaw27_round.mono _ _)
      | (with_reducible exact broadsheetlaw27_same.mono _ _ _)
      | (with_reducible exact fair_Fair.mono _ _ _)
      | (with_reducible exact fair_Round.mono _ _ _)
      | (with_reducible exact LeO.refl _)
      | (with_reducible exact LeO.none _)
      | (with_reducible refine LeO.ite ?_ ?_)
      | (with_reducible refine LeO.bind ?_ (fun _ => ?_))
      | exact ih0 _ _ _ _ _ _ _ _ _ _ _ _ _ _ _ _
      | exact ih1 _ _ _ _ _ _ _ _ _ _ _ _ _ _ _ _ _
      | exact ih2 _ _ _ _ _ _ _ _ _ _ _
      | exact ih3 _ _ _ _ _ _ _ _ _ _ _ _ _
      | exact ih4 _ _ _ _ _ _ _ _ _ _ _ _
      | exact ih5 _ _ _ _ _ _ _ _ _ _ _ _ _
      | exact broadsheetbook_Within.mono _ _ _ _
      | exact broadsheetlaw27_known.mono _
      | exact broadsheetlaw27_round.mono _ _
      | exact broadsheetlaw27_same.mono _ _ _
      | exact fair_Fair.mono _ _ _
      | exact fair_Round.mono _ _ _
      | exact LeO.none _
      | refine LeO.ite ?_ ?_
      | refine LeO.bind ?_ (fun _ => ?_)
    · intro y0 y1 y2 y3 y4 y5 y6 y7 y8 y9 y10 y11 y12
      unfold broadsheetlaw27_FairTells.j3
      repeat' first
      | (with_reducible exact ih0 _ _ _ _ _ _ _ _ _ _ _ _ _ _ _ _)
      | (with_reducible exact ih1 _ _ _ _ _ _ _ _ _ _ _ _ _ _ _ _ _)
      | (with_reducible exact ih2 _ _ _ _ _ _ _ _ _ _ _)
      | (with_reducible exact ih3 _ _ _ _ _ _ _ _ _ _ _ _ _)
      | (with_reducible exact ih4 _ _ _ _ _ _ _ _ _ _ _ _)
      | (with_reducible exact ih5 _ _ _ _ _ _ _ _ _ _ _ _ _)
      | (with_reducible exact broadsheetbook_Within.mono _ _ _ _)
      | (with_reducible exact broadsheetlaw27_known.mono _)
      | (with_reducible exact broadsheetlaw27_round.mono _ _)
      | (with_reducible exact broadsheetlaw27_same.mono _ _ _)
      | (with_reducible exact fair_Fair.mono _ _ _)
      | (with_reducible exact fair_Round.mono _ _ _)
      | (with_reducible exact LeO.refl _)
      | (with_reducible exact LeO.none _)
      | (with_reducible refine LeO.ite ?_ ?_)
      | (with_reducible refine LeO.bind ?_ (fun _ => ?_))
      | exact ih0 _ _ _ _ _ _ _ _ _ _ _ _ _ _ _ _
      | exact ih1 _ _ _ _ _ _ _ _ _ _ _ _ _ _ _ _ _
      | exact ih2 _ _ _ _ _ _ _ _ _ _ _
      | exact ih3 _ _ _ _ _ _ _ _ _ _ _ _ _
      | exact ih4 _ _ _ _ _ _ _ _ _ _ _ _
      | exact ih5 _ _ _ _ _ _ _ _ _ _ _ _ _
      | exact broadsheetbook_Within.mono _ _ _ _
      | exact broadsheetlaw27_known.mono _
      | exact broadsheetlaw27_round.mono _ _
      | exact broadsheetlaw27_same.mono _ _ _
      | exact fair_Fair.mono _ _ _
      | exact fair_Round.mono _ _ _
      | exact LeO.none _
      | refine LeO.ite ?_ ?_
      | refine LeO.bind ?_ (fun _ => ?_)
    · intro y0 y1 y2 y3 y4 y5 y6 y7 y8 y9 y10 y11
      unfold broadsheetlaw27_FairTells.j4
      repeat' first
      | (with_reducible exact ih0 _ _ _ _ _ _ _ _ _ _ _ _ _ _ _ _)
      | (with_reducible exact ih1 _ _ _ _ _ _ _ _ _ _ _ _ _ _ _ _ _)
      | (with_reducible exact ih2 _ _ _ _ _ _ _ _ _ _ _)
      | (with_reducible exact ih3 _ _ _ _ _ _ _ _ _ _ _ _ _)
      | (with_reducible exact ih4 _ _ _ _ _ _ _ _ _ _ _ _)
      | (with_reducible exact ih5 _ _ _ _ _ _ _ _ _ _ _ _ _)
      | (with_reducible exact broadsheetbook_Within.mono _ _ _ _)
      | (with_reducible exact broadsheetlaw27_known.mono _)
      | (with_reducible exact broadsheetlaw27_round.mono _ _)
      | (with_reducible exact broadsheetlaw27_same.mono _ _ _)
      | (with_reducible exact fair_Fair.mono _ _ _)
      | (with_reducible exact fair_Round.mono _ _ _)
      | (with_reducible exact LeO.refl _)
      | (with_reducible exact LeO.none _)
      | (with_reducible refine LeO.ite ?_ ?_)
      | (with_reducible refine LeO.bind ?_ (fun _ => ?_))
      | exact ih0 _ _ _ _ _ _ _ _ _ _ _ _ _ _ _ _
      | exact ih1 _ _ _ _ _ _ _ _ _ _ _ _ _ _ _ _ _
      | exact ih2 _ _ _ _ _ _ _ _ _ _ _
      | exact ih3 _ _ _ _ _ _ _ _ _ _ _ _ _
      | exact ih4 _ _ _ _ _ _ _ _ _ _ _ _
      | exact ih5 _ _ _ _ _ _ _ _ _ _ _ _ _
      | exact broadsheetbook_Within.mono _ _ _ _
      | exact broadsheetlaw27_known.mono _
      | exact broadsheetlaw27_round.mono _ _
      | exact broadsheetlaw27_same.mono _ _ _
      | exact fair_Fair.mono _ _ _
      | exact fair_Round.mono _ _ _
      | exact LeO.none _
      | refine LeO.ite ?_ ?_
      | refine LeO.bind ?_ (fun _ => ?_)
    · intro y0 y1 y2 y3 y4 y5 y6 y7 y8 y9 y10 y11 y12
      unfold broadsheetlaw27_FairTells.j5
      repeat' first
      | (with_reducible exact ih0 _ _ _ _ _ _ _ _ _ _ _ _ _ _ _ _)
      | (with_reducible exact ih1 _ _ _ _ _ _ _ _ _ _ _ _ _ _ _ _ _)
      | (with_reducible exact ih2 _ _ _ _ _ _ _ _ _ _ _)
      | (with_reducible exact ih3 _ _ _ _ _ _ _ _ _ _ _ _ _)
      | (with_reducible exact ih4 _ _ _ _ _ _ _ _ _ _ _ _)
      | (with_reducible exact ih5 _ _ _ _ _ _ _ _ _ _ _ _ _)
      | (with_reducible exact broadsheetbook_Within.mono _ _ _ _)
      | (with_reducible exact broadsheetlaw27_known.mono _)
      | (with_reducible exact broadsheetlaw27_round.mono _ _)
      | (with_reducible exact broadsheetlaw27_same.mono _ _ _)
      | (with_reducible exact fair_Fair.mono _ _ _)
      | (with_reducible exact fair_Round.mono _ _ _)
      | (with_reducible exact LeO.refl _)
      | (with_reducible exact LeO.none _)
      | (with_reducible refine LeO.ite ?_ ?_)
      | (with_reducible refine LeO.bind ?_ (fun _ => ?_))
      | exact ih0 _ _ _ _ _ _ _ _ _ _ _ _ _ _ _ _
      | exact ih1 _ _ _ _ _ _ _ _ _ _ _ _ _ _ _ _ _
      | exact ih2 _ _ _ _ _ _ _ _ _ _ _
      | exact ih3 _ _ _ _ _ _ _ _ _ _ _ _ _
      | exact ih4 _ _ _ _ _ _ _ _ _ _ _ _
      | exact ih5 _ _ _ _ _ _ _ _ _ _ _ _ _
      | exact broadsheetbook_Within.mono _ _ _ _
      | exact broadsheetlaw27_known.mono _
      | exact broadsheetlaw27_round.mono _ _
      | exact broadsheetlaw27_same.mono _ _ _
      | exact fair_Fair.mono _ _ _
      | exact fair_Round.mono _ _ _
      | exact LeO.none _
      | refine LeO.ite ?_ ?_
      | refine LeO.bind ?_ (fun _ => ?_)
theorem broadsheetlaw27_FairTells.mono : ∀ a0 a1 a2 a3 a4 a5 a6 a7 a8 a9 a10 a11 a12 a13 k, LeO (broadsheetlaw27_FairTells.f k a0 a1 a2 a3 a4 a5 a6 a7 a8 a9 a10 a11 a12 a13) (broadsheetlaw27_FairTells.f (k + 1) a0 a1 a2 a3 a4 a5 a6 a7 a8 a9 a10 a11 a12 a13) := by
  intro a0 a1 a2 a3 a4 a5 a6 a7 a8 a9 a10 a11 a12 a13 k
  obtain ⟨ih0, ih1, ih2, ih3, ih4, ih5⟩ := broadsheetlaw27_FairTells.mono_l k
  unfold broadsheetlaw27_FairTells.f
  repeat' first
      | (with_reducible exact ih0 _ _ _ _ _ _ _ _ _ _ _ _ _ _ _ _)
      | (with_reducible exact ih1 _ _ _ _ _ _ _ _ _ _ _ _ _ _ _ _ _)
      | (with_reducible exact ih2 _ _ _ _ _ _ _ _ _ _ _)
      | (with_reducible exact ih3 _ _ _ _ _ _ _ _ _ _ _ _ _)
      | (with_reducible exact ih4 _ _ _ _ _ _ _ _ _ _ _ _)
      | (with_reducible exact ih5 _ _ _ _ _ _ _ _ _ _ _ _ _)
      | (with_reducible exact broadsheetbook_Within.mono _ _ _ _)
      | (with_reducible exact broadsheetlaw27_known.mono _)
      | (with_reducible exact broadsheetlaw27_round.mono _ _)
      | (with_reducible exact broadsheetlaw27_same.mono _ _ _)
      | (with_reducible exact fair_Fair.mono _ _ _)
      | (with_reducible exact fair_Round.mono _ _ _)
      | (with_reducible exact LeO.refl _)
      | (with_reducible exact LeO.none _)
      | (with_reducible refine LeO.ite ?_ ?_)
      | (with_reducible refine LeO.bind ?_ (fun _ => ?_))
      | exact ih0 _ _ _ _ _ _ _ _ _ _ _ _ _ _ _ _
      | exact ih1 _ _ _ _ _ _ _ _ _ _ _ _ _ _ _ _ _
      | exact ih2 _ _ _ _ _ _ _ _ _ _ _
      | exact ih3 _ _ _ _ _ _ _ _ _ _ _ _ _
      | exact ih4 _ _ _ _ _ _ _ _ _ _ _ _
      | exact ih5 _ _ _ _ _ _ _ _ _ _ _ _ _
      | exact broadsheetbook_Within.mono _ _ _ _
      | exact broadsheetlaw27_known.mono _
      | exact broadsheetlaw27_round.mono _ _
      | exact broadsheetlaw27_same.mono _ _ _
      | exact fair_Fair.mono _ _ _
      | exact fair_Round.mono _ _ _
      | exact LeO.none _
      | refine LeO.ite ?_ ?_
      | refine LeO.bind ?_ (fun _ => ?_)
def broadsheetlaw27_FairTells.T21 : Bool × List (List Nat × List Nat) := (true, [([], []), ([], []), ([0, 1], [0, 1]), ([], []), ([], []), ([4], [4]), ([3, 5], [3, 5]), ([2, 6], [2, 6]), ([7, 7, 0, 1, 2, 3, 4, 5, 6, 7], [0, 3, 7])])
def broadsheetlaw27_FairTells.B21 : List Nat := [0, 0, 3, 0, 0, 16, 56, 127, 255]
theorem broadsheetlaw27_FairTells.tab21 : rtab .any (opsOf Try.f3 21) = broadsheetlaw27_FairTells.T21 := by kernel_rfl
theorem broadsheetlaw27_FairTells.bits21 : waitsOk broadsheetlaw27_FairTells.T21.2 broadsheetlaw27_FairTells.B21 = true := by kernel_rfl
set_option maxHeartbeats 8000000 in
set_option maxRecDepth 100000 in
theorem broadsheetlaw27_FairTells.calls (k : Nat) (a0 : Int) (A1 : Option Addr) (c1 : Nat) (l1 : List Int) (a2 : Int) (a3 : Int) (a4 : Int) (a5 : Int) (a6_0 : Int) (a6_1 : Int) (a6_2 : Int) (a6_3 : Int) (a6_4 : Int) (a6_5 : Int) (a6_6 : Int) (a6_7 : ByteArray) (r : Bool) (w : World) (hr1 : Kd.C (Kd.int .i64) w A1 l1.length l1) (hc1 : l1.length ≤ c1) (h : broadsheetlaw27_FairTells.f k a0 l1 a2 a3 a4 a5 a6_0 a6_1 a6_2 a6_3 a6_4 a6_5 a6_6 a6_7 = some r) :
    Calls Try.prog 3 #[.int .i64 a0, .slice A1 l1.length c1, .int .i64 a2, .int .i64 a3, .int .i64 a4, .int .i64 a5, .agg #[.int .i64 a6_0, .int .i64 a6_1, .int .i64 a6_2, .int .i64 a6_3, .int .i64 a6_4, .int .i64 a6_5, .int .i64 a6_6, .string a6_7]] w fun e w' => e = .returned (.bool r) ∧ Below w.heap.size w w' := by
  have hu24 := Try.underlying24
  have HR1 := Aside0.mk hr1
  have HC1 := Aside0.mk hc1
  clear hr1 hc1
  have HB := Aside0.mk (Below.refl w.heap.size w)
  have H : (broadsheetlaw27_FairTells.l0 k a0 l1 a2 a3 a4 a5 ([] : List (S32)) 0 a6_0 a6_1 a6_2 a6_3 a6_4 a6_5 a6_6 a6_7) = some r := h
  clear h
  have H' := Aside0.mk H
  clear H
  go_enter Try.func3, Try.ntmps3
  go_wp2_with (first | ((with_reducible refine gate_dst (N := 13) rfl ?_); refine box_event ?hg (N := 13) ?hd (cs := #[.int .i64 a6_0, .int .i64 a6_1, .int .i64 a6_2, .int .i64 a6_3, .int .i64 a6_4, .int .i64 a6_5, .int .i64 a6_6, .string a6_7]) (t := 24) ?hr ?_; (case hd => rfl); (case hg => rfl); (case hr => first | (go_simp; done) | (go_simp; rfl)); intro gb168 hg w8 hbox hb; have n0_ := Aside0.mk (below_step (by repeat (first | (with_reducible first | exact HB.out | apply below_alloc | apply pw_below_drewN | apply below_drew1) | exact HB.out)) hb); have n1_ := Aside0.mk (hbox); have n2_ := Aside0.mk ((by rw [hg]; exact (below_size (by repeat (first | (with_reducible first | exact HB.out | apply below_alloc | apply pw_below_drewN | apply below_drew1) | exact HB.out))) : w.heap.size ≤ gb168)); have n3_ := Aside0.mk ((by rw [hg]; exact (below_size (by repeat (first | (with_reducible first | exact HB.out | apply below_alloc | apply pw_below_drewN | apply below_drew1) | exact HB.out))) : w.heap.size ≤ gb168)); clear HB; have HB := n0_; have BK168 := n1_; have GW168 := n2_; have GE168 := n3_; clear n0_ n1_ n2_ n3_; clear hb hbox hg))
  go_loopg [15, 16] k (fun kq v15 v16 w' => ∃ (x15_1 : List (S32)) (x16_1 : Int), v16 = .int .i64 x16_1 ∧ Aside0 (broadsheetlaw27_FairTells.l0 kq a0 l1 a2 a3 a4 a5 x15_1 x16_1 a6_0 a6_1 a6_2 a6_3 a6_4 a6_5 a6_6 a6_7 = some r) ∧ Aside0 (kq ≤ k) ∧ Aside0 (Kd.N k32 32 w' w.heap.size (fun k_ => k_ ≠ gb168) v15 x15_1) ∧ Aside0 (w'.heap[gb168]? = some (.cells #[.int .i64 a6_0, .int .i64 a6_1, .int .i64 a6_2, .int .i64 a6_3, .int .i64 a6_4, .int .i64 a6_5, .int .i64 a6_6, .string a6_7] 24 (0, 0))) ∧ Aside0 (Below w.heap.size w w'))
  case atStart => exact ⟨(([] : List (S32))), (0), (by first | rfl | (simp; done) | (simp [*]; done)), H', ⟨Nat.le_refl _⟩, ⟨by first | exact Kd.S_nil _ _ _ _ _ | exact Kd.N_nil _ _ _ _ _ | exact Kd.V_nil _ _ _ _ _ | exact Kd.Q_nil _ _ _ _ _ | exact Kd.R_nil _ _ _ _ _⟩, ⟨by (with_reducible repeat (first | refine blk_drewN ?_ _ | refine blk_drew ?_ | refine blk_alloc ?_ _)); exact BK168.out⟩, ⟨by repeat (first | (with_reducible first | exact HB.out | apply below_alloc | apply pw_below_drewN | apply below_drew1 | refine below_set ?_ GE168.out) | exact HB.out)⟩⟩
  case round =>
    clear H'
    try clear c1
    try clear p2
    try clear c3
    obtain ⟨x15_1, x16_1, rfl, HA, HK1, HO_15, BK168, HB⟩ := hrel
    cases gk with
    | zero => exact absurd HA.out (by simp [broadsheetlaw27_FairTells.l0])
    | succ k1 =>
      have H := HA.out
      clear HA
      simp only [broadsheetlaw27_FairTells.l0] at H
      have HC9 := Aside0.mk H
      clear H
      go_upto_region 3 with (fail)
      go_cut [28] (fun v28 wc => ∃ (kq : Nat) (x28_8 : Bool), v28 = .bool x28_8 ∧ Aside0 (broadsheetlaw27_FairTells.j1 kq a0 l1 a2 a3 a4 a5 x15_1 x16_1 x28_8 a6_0 a6_1 a6_2 a6_3 a6_4 a6_5 a6_6 a6_7 = some r) ∧ Aside0 (kq ≤ k1) ∧ Aside0 (Kd.N k32 32 wc w.heap.size (fun k_ => k_ ≠ gb168) u15 x15_1) ∧ Aside0 (wc.heap[gb168]? = some (.cells #[.int .i64 a6_0, .int .i64 a6_1, .int .i64 a6_2, .int .i64 a6_3, .int .i64 a6_4, .int .i64 a6_5, .int .i64 a6_6, .string a6_7] 24 (0, 0))) ∧ Aside0 (Below w.heap.size w wc))
      case first =>
        have H := HC9.out
        clear HC9
        by_cases c10 : x16_1 < (l1.length : Int)
        · rw [if_pos c10] at H
          have c10b0 : decide (x16_1 < (l1.length : Int)) = true := decide_eq_true c10
          clear c10
          (first | rw [c10b0] | (simp only [i64_w, i32_w]; rw [c10b0]) | skip)
          have H' := Aside0.mk H
          clear H
          go_wp2
          go_meet
          case rel => exact ⟨_, (decide (x16_1 < 4)), (by first | rfl | (simp; done) | (simp [*]; done)), H', ⟨by have := HK1.out; first | omega | exact Nat.le_refl _⟩, ⟨by (with_reducible repeat (first | apply Kd.N_alloc | apply Kd.N_drewN | apply Kd.N_drew)); exact HO_15.out⟩, ⟨by (with_reducible repeat (first | refine blk_drewN ?_ _ | refine blk_drew ?_ | refine blk_alloc ?_ _)); exact BK168.out⟩, ⟨by repeat (first | (with_reducible first | exact HB.out | apply below_alloc | apply pw_below_drewN | apply below_drew1 | refine below_set ?_ GE168.out) | exact HB.out)⟩⟩
        · rw [if_neg c10] at H
          have c10b0 : decide (x16_1 < (l1.length : Int)) = false := decide_eq_false c10
          clear c10
          (first | rw [c10b0] | (simp only [i64_w, i32_w]; rw [c10b0]) | skip)
          have H' := Aside0.mk H
          clear H
          go_wp2
          go_meet
          case rel => exact ⟨_, (false), (by first | rfl | (simp; done) | (simp [*]; done)), H', ⟨by have := HK1.out; first | omega | exact Nat.le_refl _⟩, ⟨by (with_reducible repeat (first | apply Kd.N_alloc | apply Kd.N_drewN | apply Kd.N_drew)); exact HO_15.out⟩, ⟨by (with_reducible repeat (first | refine blk_drewN ?_ _ | refine blk_drew ?_ | refine blk_alloc ?_ _)); exact BK168.out⟩, ⟨by repeat (first | (with_reducible first | exact HB.out | apply below_alloc | apply pw_below_drewN | apply below_drew1 | refine below_set ?_ GE168.out) | exact HB.out)⟩⟩
      case rest =>
        clear HC9
        try clear c1
        try clear p2
        try clear c3
        try clear c10
        try clear c10b0
        try clear p2
        obtain ⟨kq, x28_8, rfl, HA, HJ8, HO_15, BK168, HB⟩ := hcut
        cases kq with
        | zero => exact absurd HA.out (by simp [broadsheetlaw27_FairTells.j1])
        | succ kj8 =>
          have H := HA.out
          clear HA
          simp only [broadsheetlaw27_FairTells.j1] at H
          by_cases c11 : x28_8 = true
          · subst c11
            have H1 : (if 0 ≤ x16_1 then (if x16_1 < (l1.length : Int) then ((fair_Round.f kj8 a0 (rd l1 x16_1)).bind fun t170 => ((broadsheetlaw27_round.f kj8 (rd l1 x16_1)).bind fun t174 => ((broadsheetlaw27_same.f kj8 t170 t174).bind fun t177 => (if t177 = true then (if x15_1.length + t170.length < 2513169434916 then (broadsheetlaw27_FairTells.l0 kj8 a0 l1 a2 a3 a4 a5 (x15_1 ++ t170) (wrap64 (x16_1 + 1)) a6_0 a6_1 a6_2 a6_3 a6_4 a6_5 a6_6 a6_7) else (none)) else (some false))))) else (none)) else (none)) = some r := by rw [if_pos rfl] at H; exact H
            clear H
            have H := H1
            clear H1
            by_cases c12 : 0 ≤ x16_1
            · rw [if_pos c12] at H
              have c12b0 : decide (0 ≤ x16_1) = true := decide_eq_true c12
              clear c12
              by_cases c13 : x16_1 < (l1.length : Int)
              · rw [if_pos c13] at H
                have c13b0 : decide (x16_1 < (l1.length : Int)) = true := decide_eq_true c13
                clear c13
                replace H := Option.bind_eq_some_iff.mp H
                obtain ⟨t170, A140, H⟩ := H
                replace H : ((broadsheetlaw27_round.f kj8 (rd l1 x16_1)).bind fun t174 => ((broadsheetlaw27_same.f kj8 t170 t174).bind fun t177 => (if t177 = true then (if x15_1.length + t170.length < 2513169434916 then (broadsheetlaw27_FairTells.l0 kj8 a0 l1 a2 a3 a4 a5 (x15_1 ++ t170) (wrap64 (x16_1 + 1)) a6_0 a6_1 a6_2 a6_3 a6_4 a6_5 a6_6 a6_7) else (none)) else (some false)))) = some r := H
                have A14 := Aside0.mk A140
                clear A140
                replace H := Option.bind_eq_some_iff.mp H
                obtain ⟨t174, A150, H⟩ := H
                replace H : ((broadsheetlaw27_same.f kj8 t170 t174).bind fun t177 => (if t177 = true then (if x15_1.length + t170.length < 2513169434916 then (broadsheetlaw27_FairTells.l0 kj8 a0 l1 a2 a3 a4 a5 (x15_1 ++ t170) (wrap64 (x16_1 + 1)) a6_0 a6_1 a6_2 a6_3 a6_4 a6_5 a6_6 a6_7) else (none)) else (some false))) = some r := H
                have A15 := Aside0.mk A150
                clear A150
                replace H := Option.bind_eq_some_iff.mp H
                obtain ⟨t177, A160, H⟩ := H
                replace H : (if t177 = true then (if x15_1.length + t170.length < 2513169434916 then (broadsheetlaw27_FairTells.l0 kj8 a0 l1 a2 a3 a4 a5 (x15_1 ++ t170) (wrap64 (x16_1 + 1)) a6_0 a6_1 a6_2 a6_3 a6_4 a6_5 a6_6 a6_7) else (none)) else (some false)) = some r := H
                have A16 := Aside0.mk A160
                clear A160
                by_cases c17 : t177 = true
                · subst c17
                  have H1 : (if x15_1.length + t170.length < 2513169434916 then (broadsheetlaw27_FairTells.l0 kj8 a0 l1 a2 a3 a4 a5 (x15_1 ++ t170) (wrap64 (x16_1 + 1)) a6_0 a6_1 a6_2 a6_3 a6_4 a6_5 a6_6 a6_7) else (none)) = some r := by rw [if_pos rfl] at H; exact H
                  clear H
                  have H := H1
                  clear H1
                  by_cases c18 : x15_1.length + t170.length < 2513169434916
                  · rw [if_pos c18] at H
                    have LMc18 := Aside0.mk c18
                    clear c18
                    obtain ⟨y178, hy178⟩ : ∃ y_ : List (S32), y_ = (x15_1 ++ t170) := ⟨_, rfl⟩
                    replace H : (broadsheetlaw27_FairTells.l0 kj8 a0 l1 a2 a3 a4 a5 y178 (wrap64 (x16_1 + 1)) a6_0 a6_1 a6_2 a6_3 a6_4 a6_5 a6_6 a6_7) = some r := by first | (rw [hy178]; with_reducible exact H) | (have H2_ := (Option.bind_some _ _).symm.trans H; rw [hy178]; with_reducible exact H2_) | (have H2_ := (Option.bind_some _ _).symm.trans H; with_reducible exact H2_) | with_reducible exact H | (rw [hy178]; exact H) | exact H
                    have Ny178 := Aside0.mk hy178
                    clear hy178
                    have H' := Aside0.mk H
                    clear H
                    have p169 : 0 ≤ (x16_1 : Int) := of_decide_eq_true (by first | (with_reducible assumption) | assumption)
                    have q169 : x16_1 < (l1.length : Int) := of_decide_eq_true (by first | (with_reducible assumption) | assumption)
                    obtain ⟨ad169, e169, hx169_0⟩ := Kd.at_int HR1.out x16_1 p169 q169
                    cases e169
                    replace hx169_0 := (HB.out.cell (World.block_lt_of_cell? w _ hx169_0)).trans hx169_0
                    replace p169 := eq_true p169
                    replace q169 := eq_true q169
                    go_wp2_with (first | ((with_reducible refine gate_callee (f := 4) rfl ?_); refine goesL_ (some 36) rfl rfl Try.func4 (by kernel_rfl) rfl #[.int .i64 a0, .int .i64 (rd l1 x16_1)] rfl (by (try simp only [List.map_toArray, List.map_cons, List.map_nil]); first | done | rfl | (simp only [List.length_drop, List.length_take]; rfl)) ?_; (with_reducible refine (fair_Round.calls kj8 a0 (rd l1 x16_1) t170 _ A14.out).mono ?_); rintro e w19 ⟨v171, rfl, ho0, hb⟩; refine ⟨_, rfl, ?_⟩; have n0_ := Aside0.mk (Kd.N_elder' (by (with_reducible repeat (first | apply Kd.N_alloc | apply Kd.N_drewN | apply Kd.N_drew)); exact HO_15.out) (Kd.N_base ho0) hb); have n1_ := Aside0.mk (Kd.N_lower (Kd.N_mono (ok' := fun k_ => some k_ ≠ (u15 : Value).ownBlock ∧ k_ ≠ gb168) ho0 (fun k_ hk_ => ⟨(Kd.fresh' (Kd.N_lt (by (with_reducible repeat (first | apply Kd.N_alloc | apply Kd.N_drewN | apply Kd.N_drew)); exact HO_15.out)) k_ hk_), (Kd.freshB (g := gb168) (o := .cells #[.int .i64 a6_0, .int .i64 a6_1, .int .i64 a6_2, .int .i64 a6_3, .int .i64 a6_4, .int .i64 a6_5, .int .i64 a6_6, .string a6_7] 24 (0, 0)) (by (with_reducible repeat (first | refine blk_drewN ?_ _ | refine blk_drew ?_ | refine blk_alloc ?_ _)); exact BK168.out) k_ hk_)⟩)) (below_size (by repeat (first | (with_reducible first | exact HB.out | apply below_alloc | apply pw_below_drewN | apply below_drew1 | refine below_set ?_ GE168.out) | exact HB.out)))); have n2_ := Aside0.mk (blk_below (g := gb168) (o := .cells #[.int .i64 a6_0, .int .i64 a6_1, .int .i64 a6_2, .int .i64 a6_3, .int .i64 a6_4, .int .i64 a6_5, .int .i64 a6_6, .string a6_7] 24 (0, 0)) (by (with_reducible repeat (first | refine blk_drewN ?_ _ | refine blk_drew ?_ | refine blk_alloc ?_ _)); exact BK168.out) hb); have n3_ := Aside0.mk (below_step (by repeat (first | (with_reducible first | exact HB.out | apply below_alloc | apply pw_below_drewN | apply below_drew1 | refine below_set ?_ GE168.out) | exact HB.out)) hb); clear HO_15; clear BK168; clear HB; have HO_15 := n0_; have HO172 := n1_; have BK168 := n2_; have HB := n3_; clear n0_ n1_ n2_ n3_; (try clear hb); (try clear hb2); (try clear hk); (try clear hi); (try clear ho0); have p173 : 0 ≤ (x16_1 : Int) := of_decide_eq_true (by first | (with_reducible assumption) | assumption); have q173 : x16_1 < (l1.length : Int) := of_decide_eq_true (by first | (with_reducible assumption) | assumption); obtain ⟨ad173, e173, hx173_0⟩ := Kd.at_int HR1.out x16_1 p173 q173; obtain rfl : ad169 = ad173 := (by injection e173); replace hx173_0 := (HB.out.cell (World.block_lt_of_cell? w _ hx173_0)).trans hx173_0; replace p173 := eq_true p173; replace q173 := eq_true q173) | ((with_reducible refine gate_callee (f := 6) rfl ?_); refine goesL_ (some 42) rfl rfl Try.func6 (by kernel_rfl) rfl #[.int .i64 (rd l1 x16_1)] rfl (by (try simp only [List.map_toArray, List.map_cons, List.map_nil]); first | done | rfl | (simp only [List.length_drop, List.length_take]; rfl)) ?_; (with_reducible refine (broadsheetlaw27_round.calls kj8 (rd l1 x16_1) t174 _ A15.out).mono ?_); rintro e w20 ⟨v175, rfl, ho0, hb⟩; refine ⟨_, rfl, ?_⟩; have n0_ := Aside0.mk (Kd.N_elder' (by (with_reducible repeat (first | apply Kd.N_alloc | apply Kd.N_drewN | apply Kd.N_drew)); exact HO_15.out) (Kd.N_base ho0) hb); have n1_ := Aside0.mk (Kd.N_elder' (by (with_reducible repeat (first | apply Kd.N_alloc | apply Kd.N_drewN | apply Kd.N_drew)); exact HO172.out) (Kd.N_base ho0) hb); have n2_ := Aside0.mk (Kd.N_lower (Kd.N_mono (ok' := fun k_ => some k_ ≠ (u15 : Value).ownBlock ∧ some k_ ≠ (v171 : Value).ownBlock ∧ k_ ≠ gb168) ho0 (fun k_ hk_ => ⟨(Kd.fresh' (Kd.N_lt (by (with_reducible repeat (first | apply Kd.N_alloc | apply Kd.N_drewN | apply Kd.N_drew)); exact HO_15.out)) k_ hk_), (Kd.fresh' (Kd.N_lt (by (with_reducible repeat (first | apply Kd.N_alloc | apply Kd.N_drewN | apply Kd.N_drew)); exact HO172.out)) k_ hk_), (Kd.freshB (g := gb168) (o := .cells #[.int .i64 a6_0, .int .i64 a6_1, .int .i64 a6_2, .int .i64 a6_3, .int .i64 a6_4, .int .i64 a6_5, .int .i64 a6_6, .string a6_7] 24 (0, 0)) (by (with_reducible repeat (first | refine blk_drewN ?_ _ | refine blk_drew ?_ | refine blk_alloc ?_ _)); exact BK168.out) k_ hk_)⟩)) (below_size (by repeat (first | (with_reducible first | exact HB.out | apply below_alloc | apply pw_below_drewN | apply below_drew1 | refine below_set ?_ GE168.out) | exact HB.out)))); have n3_ := Aside0.mk (blk_below (g := gb168) (o := .cells #[.int .i64 a6_0, .int .i64 a6_1, .int .i64 a6_2, .int .i64 a6_3, .int .i64 a6_4, .int .i64 a6_5, .int .i64 a6_6, .string a6_7] 24 (0, 0)) (by (with_reducible repeat (first | refine blk_drewN ?_ _ | refine blk_drew ?_ | refine blk_alloc ?_ _)); exact BK168.out) hb); have n4_ := Aside0.mk (below_step (by repeat (first | (with_reducible first | exact HB.out | apply below_alloc | apply pw_below_drewN | apply below_drew1 | refine below_set ?_ GE168.out) | exact HB.out)) hb); clear HO_15; clear HO172; clear BK168; clear HB; have HO_15 := n0_; have HO172 := n1_; have HO176 := n2_; have BK168 := n3_; have HB := n4_; clear n0_ n1_ n2_ n3_ n4_; (try clear hb); (try clear hb2); (try clear hk); (try clear hi); (try clear ho0); obtain ⟨Ao21, co21, eo21⟩ := Kd.N_slice HO172.out; subst eo21; obtain ⟨Ao22, co22, eo22⟩ := Kd.N_slice HO176.out; subst eo22) | ((with_reducible refine gate_callee (f := 5) rfl ?_); refine goesL_ (some 43) rfl rfl Try.func5 (by kernel_rfl) rfl #[.slice Ao21 t170.length co21, .slice Ao22 t174.length co22] rfl (by (try simp only [List.map_toArray, List.map_cons, List.map_nil]); first | done | rfl | (simp only [List.length_drop, List.length_take]; rfl)) ?_; (with_reducible refine (broadsheetlaw27_same.calls kj8 _ _ t170 _ _ t174 true _ ?side1 ?side2 ?side3 ?side4 A16.out).mono ?_); (case side1 => repeat (first | exact (Kd.N_reads' HO172.out).2.2 | (with_reducible refine Kd.C_alloc ?_ _) | (with_reducible refine Kd.C_drewN ?_ _) | (with_reducible refine Kd.C_drew ?_))); (case side2 => exact (Kd.N_reads' HO172.out).2.1); (case side3 => repeat (first | exact (Kd.N_reads' HO176.out).2.2 | (with_reducible refine Kd.C_alloc ?_ _) | (with_reducible refine Kd.C_drewN ?_ _) | (with_reducible refine Kd.C_drew ?_))); (case side4 => exact (Kd.N_reads' HO176.out).2.1); rintro e w' ⟨rfl, ⟨nd, rfl⟩⟩; refine ⟨_, rfl, ?_⟩) | ((with_reducible refine gate_builtin (b := .append) (xs := #[.tmp 45, .tmp 46]) rfl ?_); at_builtin; refine Kd.N_append_rows k32 (w0 := w) w.heap.size rfl (.tmp 45) (.tmp 46) 25 32 (.agg #[(.int .i64 0), (.int .i64 0), (.int .i64 0), (.int .i64 0), (.slice none 0 0)]) 56 rfl Try.underlying25 info32 rfl (by decide) (by omega) u15 x15_1 t170 _ _ _ (fun k_ => some k_ ≠ (.slice Ao22 t174.length co22 : Value).ownBlock ∧ k_ ≠ gb168) (fun k_ => ((fun k_ => some k_ ≠ (.slice Ao22 t174.length co22 : Value).ownBlock ∧ k_ ≠ gb168)) k_ ∧ some k_ ≠ (u15 : Value).ownBlock) rfl rfl ?aO ?aR (fun _ hk => hk) ?aF ?aB ?aS ?aL ?_; (case aR => exact (by skip; exact Kd.N_F (Kd.N_mono (ok' := (fun k_ => ((fun k_ => some k_ ≠ (.slice Ao22 t174.length co22 : Value).ownBlock ∧ k_ ≠ gb168)) k_ ∧ some k_ ≠ (u15 : Value).ownBlock)) (HO172.out) (fun k_ hk => ⟨⟨hk.2, hk.1.2⟩, hk.1.1⟩)))); (case aB => exact (by repeat (first | (with_reducible first | exact HB.out | apply below_alloc | apply pw_below_drewN | apply below_drew1 | refine below_set ?_ GE168.out) | exact HB.out))); (case aF => exact (fun k_ hk => ⟨Kd.fresh' (Kd.N_lt (by (with_reducible repeat (first | apply Kd.N_alloc | apply Kd.N_drewN | apply Kd.N_drew)); exact HO176.out)) k_ hk, Kd.freshB (g := gb168) (o := .cells #[.int .i64 a6_0, .int .i64 a6_1, .int .i64 a6_2, .int .i64 a6_3, .int .i64 a6_4, .int .i64 a6_5, .int .i64 a6_6, .string a6_7] 24 (0, 0)) (by (with_reducible repeat (first | refine blk_drewN ?_ _ | refine blk_drew ?_ | refine blk_alloc ?_ _)); exact BK168.out) k_ hk⟩)); (case aO => exact (by (with_reducible repeat (first | apply Kd.N_alloc | apply Kd.N_drewN | apply Kd.N_drew)); exact Kd.N_mono HO_15.out (fun _ hk => ⟨hk.2, hk.1.1⟩))); (case aS => exact (below_size (by repeat (first | (with_reducible first | exact HB.out | apply below_alloc | apply pw_below_drewN | apply below_drew1 | refine below_set ?_ GE168.out) | exact HB.out)))); (case aL => have := LMc18.out; omega); intro v179 w23 ho hb hg hat; rw [← Ny178.out] at ho; have n0_ := Aside0.mk (blk_grown (g := gb168) (o := .cells #[.int .i64 a6_0, .int .i64 a6_1, .int .i64 a6_2, .int .i64 a6_3, .int .i64 a6_4, .int .i64 a6_5, .int .i64 a6_6, .string a6_7] 24 (0, 0)) (by (with_reducible repeat (first | refine blk_drewN ?_ _ | refine blk_drew ?_ | refine blk_alloc ?_ _)); exact BK168.out) hg (Kd.N_ne HO_15.out BK168.out (by decide))); have n1_ := Aside0.mk (Kd.N_afterv (ok := (fun k_ => some k_ ≠ (.slice Ao22 t174.length co22 : Value).ownBlock ∧ k_ ≠ gb168)) (by (with_reducible repeat (first | apply Kd.N_alloc | apply Kd.N_drewN | apply Kd.N_drew)); exact Kd.N_mono HO172.out (fun _ hk => ⟨⟨hk.2, hk.1.2⟩, hk.1.1⟩)) hg hat); have n2_ := Aside0.mk (Kd.N_afterv (ok := (fun k_ => some k_ ≠ (.slice Ao21 t170.length co21 : Value).ownBlock ∧ k_ ≠ gb168)) (by (with_reducible repeat (first | apply Kd.N_alloc | apply Kd.N_drewN | apply Kd.N_drew)); exact Kd.N_mono HO176.out (fun _ hk => ⟨⟨hk.2.1, hk.2.2⟩, hk.1⟩)) hg hat); have n3_ := Aside0.mk (hb); have n4_ := Aside0.mk (ho); clear BK168; clear HO172; clear HO176; clear HB; clear HO_15; have BK168 := n0_; have HO172 := n1_; have HO176 := n2_; have HB := n3_; have HO180 := n4_; clear n0_ n1_ n2_ n3_ n4_; clear ho hb hg hat))
                    go_roundg kj8
                    case measure => have := HK1.out; have := HJ8.out; omega
                    case rel => exact ⟨(y178), (wrap64 (x16_1 + 1)), (by first | rfl | (simp; done) | (simp [*]; done)), H', ⟨by have := HK1.out; have := HJ8.out; omega⟩, ⟨by (with_reducible repeat (first | apply Kd.N_alloc | apply Kd.N_drewN | apply Kd.N_drew)); exact Kd.N_mono HO180.out (fun _ hk => hk.2)⟩, ⟨by (with_reducible repeat (first | refine blk_drewN ?_ _ | refine blk_drew ?_ | refine blk_alloc ?_ _)); exact BK168.out⟩, ⟨by repeat (first | (with_reducible first | exact HB.out | apply below_alloc | apply pw_below_drewN | apply below_drew1 | refine below_set ?_ GE168.out) | exact HB.out)⟩⟩
                  · rw [if_neg c18] at H
                    exact absurd H (by simp)
                · replace c17 := Bool.eq_false_iff.mpr c17
                  subst c17
                  have H1 : (some false) = some r := by rw [if_neg (show ¬ (false = true) by decide)] at H; exact H
                  clear H
                  have H := H1
                  clear H1
                  obtain rfl := Option.some.inj H
                  have p169 : 0 ≤ (x16_1 : Int) := of_decide_eq_true (by first | (with_reducible assumption) | assumption)
                  have q169 : x16_1 < (l1.length : Int) := of_decide_eq_true (by first | (with_reducible assumption) | assumption)
                  obtain ⟨ad169, e169, hx169_0⟩ := Kd.at_int HR1.out x16_1 p169 q169
                  cases e169
                  replace hx169_0 := (HB.out.cell (World.block_lt_of_cell? w _ hx169_0)).trans hx169_0
                  replace p169 := eq_true p169
                  replace q169 := eq_true q169
                  go_wp2_with (first | ((with_reducible refine gate_callee (f := 4) rfl ?_); refine goesL_ (some 36) rfl rfl Try.func4 (by kernel_rfl) rfl #[.int .i64 a0, .int .i64 (rd l1 x16_1)] rfl (by (try simp only [List.map_toArray, List.map_cons, List.map_nil]); first | done | rfl | (simp only [List.length_drop, List.length_take]; rfl)) ?_; (with_reducible refine (fair_Round.calls kj8 a0 (rd l1 x16_1) t170 _ A14.out).mono ?_); rintro e w24 ⟨v171, rfl, ho0, hb⟩; refine ⟨_, rfl, ?_⟩; have n0_ := Aside0.mk (Kd.N_elder' (by (with_reducible repeat (first | apply Kd.N_alloc | apply Kd.N_drewN | apply Kd.N_drew)); exact HO_15.out) (Kd.N_base ho0) hb); have n1_ := Aside0.mk (Kd.N_lower (Kd.N_mono (ok' := fun k_ => some k_ ≠ (u15 : Value).ownBlock ∧ k_ ≠ gb168) ho0 (fun k_ hk_ => ⟨(Kd.fresh' (Kd.N_lt (by (with_reducible repeat (first | apply Kd.N_alloc | apply Kd.N_drewN | apply Kd.N_drew)); exact HO_15.out)) k_ hk_), (Kd.freshB (g := gb168) (o := .cells #[.int .i64 a6_0, .int .i64 a6_1, .int .i64 a6_2, .int .i64 a6_3, .int .i64 a6_4, .int .i64 a6_5, .int .i64 a6_6, .string a6_7] 24 (0, 0)) (by (with_reducible repeat (first | refine blk_drewN ?_ _ | refine blk_drew ?_ | refine blk_alloc ?_ _)); exact BK168.out) k_ hk_)⟩)) (below_size (by repeat (first | (with_reducible first | exact HB.out | apply below_alloc | apply pw_below_drewN | apply below_drew1 | refine below_set ?_ GE168.out) | exact HB.out)))); have n2_ := Aside0.mk (blk_below (g := gb168) (o := .cells #[.int .i64 a6_0, .int .i64 a6_1, .int .i64 a6_2, .int .i64 a6_3, .int .i64 a6_4, .int .i64 a6_5, .int .i64 a6_6, .string a6_7] 24 (0, 0)) (by (with_reducible repeat (first | refine blk_drewN ?_ _ | refine blk_drew ?_ | refine blk_alloc ?_ _)); exact BK168.out) hb); have n3_ := Aside0.mk (below_step (by repeat (first | (with_reducible first | exact HB.out | apply below_alloc | apply pw_below_drewN | apply below_drew1 | refine below_set ?_ GE168.out) | exact HB.out)) hb); clear HO_15; clear BK168; clear HB; have HO_15 := n0_; have HO172 := n1_; have BK168 := n2_; have HB := n3_; clear n0_ n1_ n2_ n3_; (try clear hb); (try clear hb2); (try clear hk); (try clear hi); (try clear ho0); have p173 : 0 ≤ (x16_1 : Int) := of_decide_eq_true (by first | (with_reducible assumption) | assumption); have q173 : x16_1 < (l1.length : Int) := of_decide_eq_true (by first | (with_reducible assumption) | assumption); obtain ⟨ad173, e173, hx173_0⟩ := Kd.at_int HR1.out x16_1 p173 q173; obtain rfl : ad169 = ad173 := (by injection e173); replace hx173_0 := (HB.out.cell (World.block_lt_of_cell? w _ hx173_0)).trans hx173_0; replace p173 := eq_true p173; replace q173 := eq_true q173) | ((with_reducible refine gate_callee (f := 6) rfl ?_); refine goesL_ (some 42) rfl rfl Try.func6 (by kernel_rfl) rfl #[.int .i64 (rd l1 x16_1)] rfl (by (try simp only [List.map_toArray, List.map_cons, List.map_nil]); first | done | rfl | (simp only [List.length_drop, List.length_take]; rfl)) ?_; (with_reducible refine (broadsheetlaw27_round.calls kj8 (rd l1 x16_1) t174 _ A15.out).mono ?_); rintro e w25 ⟨v175, rfl, ho0, hb⟩; refine ⟨_, rfl, ?_⟩; have n0_ := Aside0.mk (Kd.N_elder' (by (with_reducible repeat (first | apply Kd.N_alloc | apply Kd.N_drewN | apply Kd.N_drew)); exact HO_15.out) (Kd.N_base ho0) hb); have n1_ := Aside0.mk (Kd.N_elder' (by (with_reducible repeat (first | apply Kd.N_alloc | apply Kd.N_drewN | apply Kd.N_drew)); exact HO172.out) (Kd.N_base ho0) hb); have n2_ := Aside0.mk (Kd.N_lower (Kd.N_mono (ok' := fun k_ => some k_ ≠ (u15 : Value).ownBlock ∧ some k_ ≠ (v171 : Value).ownBlock ∧ k_ ≠ gb168) ho0 (fun k_ hk_ => ⟨(Kd.fresh' (Kd.N_lt (by (with_reducible repeat (first | apply Kd.N_alloc | apply Kd.N_drewN | apply Kd.N_drew)); exact HO_15.out)) k_ hk_), (Kd.fresh' (Kd.N_lt (by (with_reducible repeat (first | apply Kd.N_alloc | apply Kd.N_drewN | apply Kd.N_drew)); exact HO172.out)) k_ hk_), (Kd.freshB (g := gb168) (o := .cells #[.int .i64 a6_0, .int .i64 a6_1, .int .i64 a6_2, .int .i64 a6_3, .int .i64 a6_4, .int .i64 a6_5, .int .i64 a6_6, .string a6_7] 24 (0, 0)) (by (with_reducible repeat (first | refine blk_drewN ?_ _ | refine blk_drew ?_ | refine blk_alloc ?_ _)); exact BK168.out) k_ hk_)⟩)) (below_size (by repeat (first | (with_reducible first | exact HB.out | apply below_alloc | apply pw_below_drewN | apply below_drew1 | refine below_set ?_ GE168.out) | exact HB.out)))); have n3_ := Aside0.mk (blk_below (g := gb168) (o := .cells #[.int .i64 a6_0, .int .i64 a6_1, .int .i64 a6_2, .int .i64 a6_3, .int .i64 a6_4, .int .i64 a6_5, .int .i64 a6_6, .string a6_7] 24 (0, 0)) (by (with_reducible repeat (first | refine blk_drewN ?_ _ | refine blk_drew ?_ | refine blk_alloc ?_ _)); exact BK168.out) hb); have n4_ := Aside0.mk (below_step (by repeat (first | (with_reducible first | exact HB.out | apply below_alloc | apply pw_below_drewN | apply below_drew1 | refine below_set ?_ GE168.out) | exact HB.out)) hb); clear HO_15; clear HO172; clear BK168; clear HB; have HO_15 := n0_; have HO172 := n1_; have HO176 := n2_; have BK168 := n3_; have HB := n4_; clear n0_ n1_ n2_ n3_ n4_; (try clear hb); (try clear hb2); (try clear hk); (try clear hi); (try clear ho0); obtain ⟨Ao26, co26, eo26⟩ := Kd.N_slice HO172.out; subst eo26; obtain ⟨Ao27, co27, eo27⟩ := Kd.N_slice HO176.out; subst eo27) | ((with_reducible refine gate_callee (f := 5) rfl ?_); refine goesL_ (some 43) rfl rfl Try.func5 (by kernel_rfl) rfl #[.slice Ao26 t170.length co26, .slice Ao27 t174.length co27] rfl (by (try simp only [List.map_toArray, List.map_cons, List.map_nil]); first | done | rfl | (simp only [List.length_drop, List.length_take]; rfl)) ?_; (with_reducible refine (broadsheetlaw27_same.calls kj8 _ _ t170 _ _ t174 false _ ?side1 ?side2 ?side3 ?side4 A16.out).mono ?_); (case side1 => repeat (first | exact (Kd.N_reads' HO172.out).2.2 | (with_reducible refine Kd.C_alloc ?_ _) | (with_reducible refine Kd.C_drewN ?_ _) | (with_reducible refine Kd.C_drew ?_))); (case side2 => exact (Kd.N_reads' HO172.out).2.1); (case side3 => repeat (first | exact (Kd.N_reads' HO176.out).2.2 | (with_reducible refine Kd.C_alloc ?_ _) | (with_reducible refine Kd.C_drewN ?_ _) | (with_reducible refine Kd.C_drew ?_))); (case side4 => exact (Kd.N_reads' HO176.out).2.1); rintro e w' ⟨rfl, ⟨nd, rfl⟩⟩; refine ⟨_, rfl, ?_⟩))
                  go_ret
                  exact ⟨by first | rfl | (simp [errW_none, errW_some] <;> rfl) | (simp [*, errW_none, errW_some] <;> rfl), by repeat (first | (with_reducible first | exact HB.out | apply below_alloc | apply pw_below_drewN | apply below_drew1 | refine below_set ?_ GE168.out) | exact HB.out)⟩
              · rw [if_neg c13] at H
                exact absurd H (by simp)
            · rw [if_neg c12] at H
              exact absurd H (by simp)
          · replace c11 := Bool.eq_false_iff.mpr c11
            subst c11
            have H1 : (if (x15_1.length : Int) > 0 then ((broadsheetbook_Within.f kj8 a2 0 (wrap64 ((x15_1.length : Int) - 1))).bind fun t181 => ((some (([] : List (S32)) : List (S32))).bind fun y182 => (if y182.length + x15_1.length < 2513169434916 then ((some (y182 ++ x15_1 : List (S32))).bind fun y185 => (if a5 = 1 then (if 0 ≤ t181 then (if t181 < (y185.length : Int) then (broadsheetlaw27_FairTells.j2 kj8 a0 (y185.set (t181 : Int).toNat (⟨a3, (rd_T32 y185 t181).f1, (rd_T32 y185 t181).f2, (rd_T32 y185 t181).f3, (rd_T32 y185 t181).f4⟩ : S32)) (((rd_T32 y185 t181).f0) == a3) a6_0 a6_1 a6_2 a6_3 a6_4 a6_5 a6_6 a6_7) else (none)) else (none)) else (if a5 = 2 then (if 0 ≤ t181 then (if t181 < (y185.length : Int) then (if ((rd_T32 y185 t181).f0) = 9 then (broadsheetlaw27_FairTells.j2 kj8 a0 (y185.set (t181 : Int).toNat (⟨(rd_T32 y185 t181).f0, a4, (rd_T32 y185 t181).f2, (rd_T32 y185 t181).f3, (rd_T32 y185 t181).f4⟩ : S32)) true a6_0 a6_1 a6_2 a6_3 a6_4 a6_5 a6_6 a6_7) else (if ((rd_T32 y185 t181).f1) = a4 then (broadsheetlaw27_FairTells.j2 kj8 a0 (y185.set (t181 : Int).toNat (⟨(rd_T32 y185 t181).f0, a4, (rd_T32 y185 t181).f2, (rd_T32 y185 t181).f3, (rd_T32 y185 t181).f4⟩ : S32)) true a6_0 a6_1 a6_2 a6_3 a6_4 a6_5 a6_6 a6_7) else (if ((rd_T32 y185 t181).f0) = 2 then (broadsheetlaw27_FairTells.j2 kj8 a0 (y185.set (t181 : Int).toNat (⟨(rd_T32 y185 t181).f0, a4, (rd_T32 y185 t181).f2, (rd_T32 y185 t181).f3, (rd_T32 y185 t181).f4⟩ : S32)) false a6_0 a6_1 a6_2 a6_3 a6_4 a6_5 a6_6 a6_7) else (broadsheetlaw27_FairTells.j2 kj8 a0 (y185.set (t181 : Int).toNat (⟨(rd_T32 y185 t181).f0, a4, (rd_T32 y185 t181).f2, (rd_T32 y185 t181).f3, (rd_T32 y185 t181).f4⟩ : S32)) (((rd_T32 y185 t181).f0) != 6) a6_0 a6_1 a6_2 a6_3 a6_4 a6_5 a6_6 a6_7)))) else (none)) else (none)) else (if a5 = 3 then (if 0 ≤ t181 then (if t181 ≤ (y185.length : Int) then (if 0 ≤ (wrap64 (t181 + 1)) then (if (wrap64 (t181 + 1)) ≤ (y185.length : Int) then (broadsheetlaw27_FairTells.j2 kj8 a0 (y185.eraseIdx (t181 : Int).toNat) false a6_0 a6_1 a6_2 a6_3 a6_4 a6_5 a6_6 a6_7) else (none)) else (none)) else (none)) else (none)) else (broadsheetlaw27_FairTells.j2 kj8 a0 y185 (decide ((x15_1.length : Int) > 0)) a6_0 a6_1 a6_2 a6_3 a6_4 a6_5 a6_6 a6_7))))) else (none)))) else (broadsheetlaw27_FairTells.j2 kj8 a0 x15_1 (decide ((x15_1.length : Int) > 0)) a6_0 a6_1 a6_2 a6_3 a6_4 a6_5 a6_6 a6_7)) = some r := by rw [if_neg (show ¬ (false = true) by decide)] at H; exact H
            clear H
            have H := H1
            clear H1
            have HC28 := Aside0.mk H
            clear H
            obtain ⟨Ao29, co29, eo29⟩ := Kd.N_slice HO_15.out
            subst eo29
            go_upto_if 53 with (fail)
            go_cut [15, 18] (fun v15 v18 wc => ∃ (kq : Nat) (x15_27 : List (S32)) (x18_27 : Bool), v18 = .bool x18_27 ∧ Aside0 (broadsheetlaw27_FairTells.j2 kq a0 x15_27 x18_27 a6_0 a6_1 a6_2 a6_3 a6_4 a6_5 a6_6 a6_7 = some r) ∧ Aside0 (kq ≤ kj8) ∧ Aside0 (Kd.N k32 32 wc w.heap.size (fun k_ => k_ ≠ gb168) v15 x15_27) ∧ Aside0 (wc.heap[gb168]? = some (.cells #[.int .i64 a6_0, .int .i64 a6_1, .int .i64 a6_2, .int .i64 a6_3, .int .i64 a6_4, .int .i64 a6_5, .int .i64 a6_6, .string a6_7] 24 (0, 0))) ∧ Aside0 (Below w.heap.size w wc))
            case first =>
              have H := HC28.out
              clear HC28
              by_cases c30 : (x15_1.length : Int) > 0
              · rw [if_pos c30] at H
                have c30b0 : decide (0 < (x15_1.length : Int)) = true := decide_eq_true c30
                have c30b1 : decide (0 < x15_1.length) = true := decide_eq_true (by omega)
                clear c30
                have gc30 : 0 < x15_1.length := of_decide_eq_true c30b1
                (first | rw [c30b0] | (simp only [i64_w, i32_w]; rw [c30b0]) | skip)
                replace H := Option.bind_eq_some_iff.mp H
                obtain ⟨t181, A310, H⟩ := H
                replace H : ((some (([] : List (S32)) : List (S32))).bind fun y182 => (if y182.length + x15_1.length < 2513169434916 then ((some (y182 ++ x15_1 : List (S32))).bind fun y185 => (if a5 = 1 then (if 0 ≤ t181 then (if t181 < (y185.length : Int) then (broadsheetlaw27_FairTells.j2 kj8 a0 (y185.set (t181 : Int).toNat (⟨a3, (rd_T32 y185 t181).f1, (rd_T32 y185 t181).f2, (rd_T32 y185 t181).f3, (rd_T32 y185 t181).f4⟩ : S32)) (((rd_T32 y185 t181).f0) == a3) a6_0 a6_1 a6_2 a6_3 a6_4 a6_5 a6_6 a6_7) else (none)) else (none)) else (if a5 = 2 then (if 0 ≤ t181 then (if t181 < (y185.length : Int) then (if ((rd_T32 y185 t181).f0) = 9 then (broadsheetlaw27_FairTells.j2 kj8 a0 (y185.set (t181 : Int).toNat (⟨(rd_T32 y185 t181).f0, a4, (rd_T32 y185 t181).f2, (rd_T32 y185 t181).f3, (rd_T32 y185 t181).f4⟩ : S32)) true a6_0 a6_1 a6_2 a6_3 a6_4 a6_5 a6_6 a6_7) else (if ((rd_T32 y185 t181).f1) = a4 then (broadsheetlaw27_FairTells.j2 kj8 a0 (y185.set (t181 : Int).toNat (⟨(rd_T32 y185 t181).f0, a4, (rd_T32 y185 t181).f2, (rd_T32 y185 t181).f3, (rd_T32 y185 t181).f4⟩ : S32)) true a6_0 a6_1 a6_2 a6_3 a6_4 a6_5 a6_6 a6_7) else (if ((rd_T32 y185 t181).f0) = 2 then (broadsheetlaw27_FairTells.j2 kj8 a0 (y185.set (t181 : Int).toNat (⟨(rd_T32 y185 t181).f0, a4, (rd_T32 y185 t181).f2, (rd_T32 y185 t181).f3, (rd_T32 y185 t181).f4⟩ : S32)) false a6_0 a6_1 a6_2 a6_3 a6_4 a6_5 a6_6 a6_7) else (broadsheetlaw27_FairTells.j2 kj8 a0 (y185.set (t181 : Int).toNat (⟨(rd_T32 y185 t181).f0, a4, (rd_T32 y185 t181).f2, (rd_T32 y185 t181).f3, (rd_T32 y185 t181).f4⟩ : S32)) (((rd_T32 y185 t181).f0) != 6) a6_0 a6_1 a6_2 a6_3 a6_4 a6_5 a6_6 a6_7)))) else (none)) else (none)) else (if a5 = 3 then (if 0 ≤ t181 then (if t181 ≤ (y185.length : Int) then (if 0 ≤ (wrap64 (t181 + 1)) then (if (wrap64 (t181 + 1)) ≤ (y185.length : Int) then (broadsheetlaw27_FairTells.j2 kj8 a0 (y185.eraseIdx (t181 : Int).toNat) false a6_0 a6_1 a6_2 a6_3 a6_4 a6_5 a6_6 a6_7) else (none)) else (none)) else (none)) else (none)) else (broadsheetlaw27_FairTells.j2 kj8 a0 y185 (decide ((x15_1.length : Int) > 0)) a6_0 a6_1 a6_2 a6_3 a6_4 a6_5 a6_6 a6_7))))) else (none))) = some r := H
                have A31 := Aside0.mk A310
                clear A310
                obtain ⟨y182, hy182⟩ : ∃ y_ : List (S32), y_ = (([] : List (S32))) := ⟨_, rfl⟩
                replace H : (if y182.length + x15_1.length < 2513169434916 then ((some (y182 ++ x15_1 : List (S32))).bind fun y185 => (if a5 = 1 then (if 0 ≤ t181 then (if t181 < (y185.length : Int) then (broadsheetlaw27_FairTells.j2 kj8 a0 (y185.set (t181 : Int).toNat (⟨a3, (rd_T32 y185 t181).f1, (rd_T32 y185 t181).f2, (rd_T32 y185 t181).f3, (rd_T32 y185 t181).f4⟩ : S32)) (((rd_T32 y185 t181).f0) == a3) a6_0 a6_1 a6_2 a6_3 a6_4 a6_5 a6_6 a6_7) else (none)) else (none)) else (if a5 = 2 then (if 0 ≤ t181 then (if t181 < (y185.length : Int) then (if ((rd_T32 y185 t181).f0) = 9 then (broadsheetlaw27_FairTells.j2 kj8 a0 (y185.set (t181 : Int).toNat (⟨(rd_T32 y185 t181).f0, a4, (rd_T32 y185 t181).f2, (rd_T32 y185 t181).f3, (rd_T32 y185 t181).f4⟩ : S32)) true a6_0 a6_1 a6_2 a6_3 a6_4 a6_5 a6_6 a6_7) else (if ((rd_T32 y185 t181).f1) = a4 then (broadsheetlaw27_FairTells.j2 kj8 a0 (y185.set (t181 : Int).toNat (⟨(rd_T32 y185 t181).f0, a4, (rd_T32 y185 t181).f2, (rd_T32 y185 t181).f3, (rd_T32 y185 t181).f4⟩ : S32)) true a6_0 a6_1 a6_2 a6_3 a6_4 a6_5 a6_6 a6_7) else (if ((rd_T32 y185 t181).f0) = 2 then (broadsheetlaw27_FairTells.j2 kj8 a0 (y185.set (t181 : Int).toNat (⟨(rd_T32 y185 t181).f0, a4, (rd_T32 y185 t181).f2, (rd_T32 y185 t181).f3, (rd_T32 y185 t181).f4⟩ : S32)) false a6_0 a6_1 a6_2 a6_3 a6_4 a6_5 a6_6 a6_7) else (broadsheetlaw27_FairTells.j2 kj8 a0 (y185.set (t181 : Int).toNat (⟨(rd_T32 y185 t181).f0, a4, (rd_T32 y185 t181).f2, (rd_T32 y185 t181).f3, (rd_T32 y185 t181).f4⟩ : S32)) (((rd_T32 y185 t181).f0) != 6) a6_0 a6_1 a6_2 a6_3 a6_4 a6_5 a6_6 a6_7)))) else (none)) else (none)) else (if a5 = 3 then (if 0 ≤ t181 then (if t181 ≤ (y185.length : Int) then (if 0 ≤ (wrap64 (t181 + 1)) then (if (wrap64 (t181 + 1)) ≤ (y185.length : Int) then (broadsheetlaw27_FairTells.j2 kj8 a0 (y185.eraseIdx (t181 : Int).toNat) false a6_0 a6_1 a6_2 a6_3 a6_4 a6_5 a6_6 a6_7) else (none)) else (none)) else (none)) else (none)) else (broadsheetlaw27_FairTells.j2 kj8 a0 y185 (decide ((x15_1.length : Int) > 0)) a6_0 a6_1 a6_2 a6_3 a6_4 a6_5 a6_6 a6_7))))) else (none)) = some r := by first | (rw [hy182]; with_reducible exact H) | (have H2_ := (Option.bind_some _ _).symm.trans H; rw [hy182]; with_reducible exact H2_) | (have H2_ := (Option.bind_some _ _).symm.trans H; with_reducible exact H2_) | with_reducible exact H | (rw [hy182]; exact H) | exact H
                have Ny182 := Aside0.mk hy182
                clear hy182
                by_cases c32 : y182.length + x15_1.length < 2513169434916
                · rw [if_pos c32] at H
                  have LMc32 := Aside0.mk c32
                  clear c32
                  obtain ⟨y185, hy185⟩ : ∃ y_ : List (S32), y_ = (y182 ++ x15_1) := ⟨_, rfl⟩
                  replace H : (if a5 = 1 then (if 0 ≤ t181 then (if t181 < (y185.length : Int) then (broadsheetlaw27_FairTells.j2 kj8 a0 (y185.set (t181 : Int).toNat (⟨a3, (rd_T32 y185 t181).f1, (rd_T32 y185 t181).f2, (rd_T32 y185 t181).f3, (rd_T32 y185 t181).f4⟩ : S32)) (((rd_T32 y185 t181).f0) == a3) a6_0 a6_1 a6_2 a6_3 a6_4 a6_5 a6_6 a6_7) else (none)) else (none)) else (if a5 = 2 then (if 0 ≤ t181 then (if t181 < (y185.length : Int) then (if ((rd_T32 y185 t181).f0) = 9 then (broadsheetlaw27_FairTells.j2 kj8 a0 (y185.set (t181 : Int).toNat (⟨(rd_T32 y185 t181).f0, a4, (rd_T32 y185 t181).f2, (rd_T32 y185 t181).f3, (rd_T32 y185 t181).f4⟩ : S32)) true a6_0 a6_1 a6_2 a6_3 a6_4 a6_5 a6_6 a6_7) else (if ((rd_T32 y185 t181).f1) = a4 then (broadsheetlaw27_FairTells.j2 kj8 a0 (y185.set (t181 : Int).toNat (⟨(rd_T32 y185 t181).f0, a4, (rd_T32 y185 t181).f2, (rd_T32 y185 t181).f3, (rd_T32 y185 t181).f4⟩ : S32)) true a6_0 a6_1 a6_2 a6_3 a6_4 a6_5 a6_6 a6_7) else (if ((rd_T32 y185 t181).f0) = 2 then (broadsheetlaw27_FairTells.j2 kj8 a0 (y185.set (t181 : Int).toNat (⟨(rd_T32 y185 t181).f0, a4, (rd_T32 y185 t181).f2, (rd_T32 y185 t181).f3, (rd_T32 y185 t181).f4⟩ : S32)) false a6_0 a6_1 a6_2 a6_3 a6_4 a6_5 a6_6 a6_7) else (broadsheetlaw27_FairTells.j2 kj8 a0 (y185.set (t181 : Int).toNat (⟨(rd_T32 y185 t181).f0, a4, (rd_T32 y185 t181).f2, (rd_T32 y185 t181).f3, (rd_T32 y185 t181).f4⟩ : S32)) (((rd_T32 y185 t181).f0) != 6) a6_0 a6_1 a6_2 a6_3 a6_4 a6_5 a6_6 a6_7)))) else (none)) else (none)) else (if a5 = 3 then (if 0 ≤ t181 then (if t181 ≤ (y185.length : Int) then (if 0 ≤ (wrap64 (t181 + 1)) then (if (wrap64 (t181 + 1)) ≤ (y185.length : Int) then (broadsheetlaw27_FairTells.j2 kj8 a0 (y185.eraseIdx (t181 : Int).toNat) false a6_0 a6_1 a6_2 a6_3 a6_4 a6_5 a6_6 a6_7) else (none)) else (none)) else (none)) else (none)) else (broadsheetlaw27_FairTells.j2 kj8 a0 y185 (decide ((x15_1.length : Int) > 0)) a6_0 a6_1 a6_2 a6_3 a6_4 a6_5 a6_6 a6_7)))) = some r := by first | (rw [hy185]; with_reducible exact H) | (have H2_ := (Option.bind_some _ _).symm.trans H; rw [hy185]; with_reducible exact H2_) | (have H2_ := (Option.bind_some _ _).symm.trans H; with_reducible exact H2_) | with_reducible exact H | (rw [hy185]; exact H) | exact H
                  have Ny185 := Aside0.mk hy185
                  clear hy185
                  by_cases c33 : a5 = 1
                  · rw [if_pos c33] at H
                    have c33b0 : (a5 == 1) = true := beq_iff_eq.mpr c33
                    have c33b1 : (a5 != 1) = false := bne_eq_false_iff_eq.mpr c33
                    clear c33
                    by_cases c34 : 0 ≤ t181
                    · rw [if_pos c34] at H
                      have c34b0 : decide (0 ≤ t181) = true := decide_eq_true c34
                      clear c34
                      by_cases c35 : t181 < (y185.length : Int)
                      · rw [if_pos c35] at H
                        have c35b0 : decide (t181 < (y185.length : Int)) = true := decide_eq_true c35
                        clear c35
                        obtain ⟨y189, hy189⟩ : ∃ y_ : List (S32), y_ = (y185.set (t181 : Int).toNat (⟨a3, (rd_T32 y185 t181).f1, (rd_T32 y185 t181).f2, (rd_T32 y185 t181).f3, (rd_T32 y185 t181).f4⟩ : S32)) := ⟨_, rfl⟩
                        replace H : (broadsheetlaw27_FairTells.j2 kj8 a0 y189 (((rd_T32 y185 t181).f0) == a3) a6_0 a6_1 a6_2 a6_3 a6_4 a6_5 a6_6 a6_7) = some r := by first | (rw [hy189]; with_reducible exact H) | (have H2_ := (Option.bind_some _ _).symm.trans H; rw [hy189]; with_reducible exact H2_) | (have H2_ := (Option.bind_some _ _).symm.trans H; with_reducible exact H2_) | with_reducible exact H | (rw [hy189]; exact H) | exact H
                        have Ny189 := Aside0.mk hy189
                        clear hy189
                        have H' := Aside0.mk H
                        clear H
                        go_wp2_with (first | ((with_reducible refine gate_callee (f := 7) rfl ?_); refine goesL_ (some 58) rfl rfl Try.func7 (by kernel_rfl) rfl #[.int .i64 a2, .int .i64 0, .int .i64 (wrap64 ((x15_1.length : Int) - 1))] rfl (by (try simp only [List.map_toArray, List.map_cons, List.map_nil]); first | done | rfl | (simp only [List.length_drop, List.length_take]; rfl)) ?_; (with_reducible refine (broadsheetbook_Within.calls kj8 a2 0 (wrap64 ((x15_1.length : Int) - 1)) t181 _ A31.out).mono ?_); rintro e w' ⟨rfl, ⟨nd, rfl⟩⟩; refine ⟨_, rfl, ?_⟩; (try (rw [drewN_self wc]; generalize hq_ : World.drewN wc _ = wc; have n0_ : Aside0 (Kd.N k32 32 wc w.heap.size (fun k_ => k_ ≠ gb168) (.slice Ao29 x15_1.length co29) x15_1) := ⟨by rw [← hq_]; exact (by (with_reducible repeat (first | apply Kd.N_alloc | apply Kd.N_drewN | apply Kd.N_drew)); exact HO_15.out)⟩; have n1_ : Aside0 (wc.heap[gb168]? = some (.cells #[.int .i64 a6_0, .int .i64 a6_1, .int .i64 a6_2, .int .i64 a6_3, .int .i64 a6_4, .int .i64 a6_5, .int .i64 a6_6, .string a6_7] 24 (0, 0))) := ⟨by rw [← hq_]; exact (by (with_reducible repeat (first | refine blk_drewN ?_ _ | refine blk_drew ?_ | refine blk_alloc ?_ _)); exact BK168.out)⟩; have n2_ : Aside0 (Below w.heap.size w wc) := ⟨by rw [← hq_]; exact (by repeat (first | (with_reducible first | exact HB.out | apply below_alloc | apply pw_below_drewN | apply below_drew1 | refine below_set ?_ GE168.out) | exact HB.out))⟩; clear HO_15 BK168 HB hq_; have HO_15 := n0_; have BK168 := n1_; have HB := n2_; clear n0_ n1_ n2_))) | ((with_reducible refine gate_dst (N := 59) rfl ?_); refine Kd.N_lit k32 _ 32 ?hg (N' := 59) ?hd (xs := ([] : List (S32))) (inner := []) (ok := (fun k_ => some k_ ≠ (.slice Ao29 x15_1.length co29 : Value).ownBlock ∧ k_ ≠ gb168)) (okp := (fun k_ => some k_ ≠ (.slice Ao29 x15_1.length co29 : Value).ownBlock ∧ k_ ≠ gb168)) ?hr ?hp (fun _ hk => hk) ((show ∀ k_, wc.heap.size ≤ k_ → (fun k_ => some k_ ≠ (.slice Ao29 x15_1.length co29 : Value).ownBlock ∧ k_ ≠ gb168) k_ from fun k_ hk => ⟨Kd.fresh' (Kd.N_lt (by (with_reducible repeat (first | apply Kd.N_alloc | apply Kd.N_drewN | apply Kd.N_drew)); exact HO_15.out)) k_ hk, Kd.freshB (g := gb168) (o := .cells #[.int .i64 a6_0, .int .i64 a6_1, .int .i64 a6_2, .int .i64 a6_3, .int .i64 a6_4, .int .i64 a6_5, .int .i64 a6_6, .string a6_7] 24 (0, 0)) (by (with_reducible repeat (first | refine blk_drewN ?_ _ | refine blk_drew ?_ | refine blk_alloc ?_ _)); exact BK168.out) k_ hk⟩) _ (Nat.le_refl _)) (Below.refl _ _) (Nat.le_refl _) (by simp) ?_; (case hd => rfl); (case hg => rfl); (case hr => first | (go_simp; done) | (go_simp; rfl)); (case hp => exact (Reps.none _ _)); intro v183 w37 ho38 hb hg_ hnew_; clear hg_ hnew_; (first | rw [← Ny182.out] at ho38 | (simp only [Int.reduceToNat] at ho38; rw [← Ny182.out] at ho38)); have n0_ := Aside0.mk (Kd.N_elder' (by (with_reducible repeat (first | apply Kd.N_alloc | apply Kd.N_drewN | apply Kd.N_drew)); exact HO_15.out) (Kd.N_base ho38) hb); have n1_ := Aside0.mk (Kd.N_lower ho38 (below_size (by repeat (first | (with_reducible first | exact HB.out | apply below_alloc | apply pw_below_drewN | apply below_drew1 | refine below_set ?_ GE168.out) | exact HB.out)))); have n2_ := Aside0.mk (blk_below (g := gb168) (o := .cells #[.int .i64 a6_0, .int .i64 a6_1, .int .i64 a6_2, .int .i64 a6_3, .int .i64 a6_4, .int .i64 a6_5, .int .i64 a6_6, .string a6_7] 24 (0, 0)) (by (with_reducible repeat (first | refine blk_drewN ?_ _ | refine blk_drew ?_ | refine blk_alloc ?_ _)); exact BK168.out) hb); have n3_ := Aside0.mk (below_step (by repeat (first | (with_reducible first | exact HB.out | apply below_alloc | apply pw_below_drewN | apply below_drew1 | refine below_set ?_ GE168.out) | exact HB.out)) hb); clear HO_15; clear BK168; clear HB; have HO_15 := n0_; have HO184 := n1_; have BK168 := n2_; have HB := n3_; clear n0_ n1_ n2_ n3_; clear hb ho38) | ((with_reducible refine gate_builtin (b := .append) (xs := #[.tmp 59, .tmp 60]) rfl ?_); at_builtin; refine Kd.N_append_rows k32 (w0 := w) w.heap.size rfl (.tmp 59) (.tmp 60) 25 32 (.agg #[(.int .i64 0), (.int .i64 0), (.int .i64 0), (.int .i64 0), (.slice none 0 0)]) 56 rfl Try.underlying25 info32 rfl (by decide) (by omega) v183 y182 x15_1 _ _ _ (fun k_ => k_ ≠ gb168) (fun k_ => ((fun k_ => k_ ≠ gb168)) k_ ∧ some k_ ≠ (v183 : Value).ownBlock) rfl rfl ?aO ?aR (fun _ hk => hk) ?aF ?aB ?aS ?aL ?_; (case aR => exact (by skip; exact Kd.N_F (Kd.N_mono (ok' := (fun k_ => ((fun k_ => k_ ≠ gb168)) k_ ∧ some k_ ≠ (v183 : Value).ownBlock)) (HO_15.out) (fun k_ hk => ⟨hk.1, hk.2⟩)))); (case aB => exact (by repeat (first | (with_reducible first | exact HB.out | apply below_alloc | apply pw_below_drewN | apply below_drew1 | refine below_set ?_ GE168.out) | exact HB.out))); (case aF => exact (fun k_ hk => Kd.freshB (g := gb168) (o := .cells #[.int .i64 a6_0, .int .i64 a6_1, .int .i64 a6_2, .int .i64 a6_3, .int .i64 a6_4, .int .i64 a6_5, .int .i64 a6_6, .string a6_7] 24 (0, 0)) (by (with_reducible repeat (first | refine blk_drewN ?_ _ | refine blk_drew ?_ | refine blk_alloc ?_ _)); exact BK168.out) k_ hk)); (case aO => exact (by (with_reducible repeat (first | apply Kd.N_alloc | apply Kd.N_drewN | apply Kd.N_drew)); exact Kd.N_mono HO184.out (fun _ hk => hk.2))); (case aS => exact (below_size (by repeat (first | (with_reducible first | exact HB.out | apply below_alloc | apply pw_below_drewN | apply below_drew1 | refine below_set ?_ GE168.out) | exact HB.out)))); (case aL => have := LMc32.out; omega); intro v186 w39 ho hb hg hat; rw [← Ny185.out] at ho; have n0_ := Aside0.mk (Kd.N_afterv (ok := (fun k_ => k_ ≠ gb168)) (by (with_reducible repeat (first | apply Kd.N_alloc | apply Kd.N_drewN | apply Kd.N_drew)); exact HO_15.out) hg hat); have n1_ := Aside0.mk (blk_grown (g := gb168) (o := .cells #[.int .i64 a6_0, .int .i64 a6_1, .int .i64 a6_2, .int .i64 a6_3, .int .i64 a6_4, .int .i64 a6_5, .int .i64 a6_6, .string a6_7] 24 (0, 0)) (by (with_reducible repeat (first | refine blk_drewN ?_ _ | refine blk_drew ?_ | refine blk_alloc ?_ _)); exact BK168.out) hg (Kd.N_ne HO184.out BK168.out (by decide))); have n2_ := Aside0.mk (hb); have n3_ := Aside0.mk (ho); clear HO_15; clear BK168; clear HB; clear HO184; have HO_15 := n0_; have BK168 := n1_; have HB := n2_; have HO187 := n3_; clear n0_ n1_ n2_ n3_; clear ho hb hg hat; obtain ⟨Ao40, co40, eo40⟩ := Kd.N_slice HO187.out; subst eo40; have p188 : 0 ≤ (t181 : Int) := of_decide_eq_true (by first | (with_reducible assumption) | assumption); have q188 : t181 < (y185.length : Int) := of_decide_eq_true (by first | (with_reducible assumption) | assumption); obtain ⟨ad188, A188_4, c188_4, e188, hx188_0, hx188_1, hx188_2, hx188_3, hx188_4, hl188_4, hi188_4⟩ := at_T32 (Kd.N_reads' HO187.out).2.2 t181 p188 q188; cases e188; obtain ⟨ce188, hce188, hMe188, hcc188⟩ := Kd.N_get HO187.out z32 t181 p188 (by first | exact q188 | exact of_decide_eq_true (by first | (with_reducible assumption) | assumption) | (have e_ := (Kd.N_reads' HO187.out).1; omega)); obtain ⟨ua188_4, uc188_4, rfl, ul188_4, ge188_4⟩ := k32_openF hMe188; have hv188_4 := hcc188 4 _ rfl; rw [add_field _ _ 4 (by omega)] at hv188_4; replace hv188_4 := Option.some.inj (hv188_4.symm.trans hx188_4); injection hv188_4 with hva_ hvn_ hvc_; rw [hva_] at ge188_4; rw [hvc_] at ul188_4; have HL188_4 := Aside0.mk (show Kd.V (Kd.int .u8) 5 _ w.heap.size _ _ ((rd_T32 y185 t181).f4) from Kd.V_mk ul188_4 ge188_4); clear hva_ hvn_ hvc_ ge188_4 ul188_4; clear hcc188 hce188; have HR188_4 := Aside0.mk hi188_4; have HC188_4 := Aside0.mk hl188_4; clear hi188_4 hl188_4; replace p188 := eq_true p188; replace q188 := eq_true q188; have p36 : 0 ≤ (t181 : Int) := of_decide_eq_true (by first | (with_reducible assumption) | assumption); have q36 : (t181 : Int) < ((y185.length : Int) : Int) := of_decide_eq_true (by first | (with_reducible assumption) | assumption); obtain ⟨go36, co36, eo36, gb36, gl36, cl36, HG36⟩ := Kd.N_form HO187.out (by omega); (first | cases eo36 | (injection eo36 with ea_ en_ ec_; (first | subst ea_ | (injection ea_ with ea_; subst ea_)); subst ec_; clear en_)); have GB36 := Aside0.mk gb36; have GG36 := Aside0.mk HG36; clear gb36 gl36 HG36; (first | simp only [add_plain] at hx188_0 | skip); (first | simp only [add_plain] at hx188_1 | skip); (first | simp only [add_plain] at hx188_2 | skip); (first | simp only [add_plain] at hx188_3 | skip); (first | simp only [add_plain] at hx188_4 | skip); obtain ⟨ce36, hcl36, hM36, hcc36, hfr36⟩ := Kd.N_elem HO187.out z32 (t181 : Int) p36 q36; obtain ⟨ua36_4, uc36_4, rfl, ul36_4, ge36_4⟩ := k32_openF hM36; have hx36_0 : w39.cell? ⟨go36, (t181 : Int).toNat * 5, none⟩ = some (.int .i64 ((rd_T32 y185 t181).f0)) := hcc36 0 _ rfl; have hx36_1 : w39.cell? ⟨go36, (t181 : Int).toNat * 5 + 1, none⟩ = some (.int .i64 ((rd_T32 y185 t181).f1)) := hcc36 1 _ rfl; have hx36_2 : w39.cell? ⟨go36, (t181 : Int).toNat * 5 + 2, none⟩ = some (.int .i64 ((rd_T32 y185 t181).f2)) := hcc36 2 _ rfl; have hx36_3 : w39.cell? ⟨go36, (t181 : Int).toNat * 5 + 3, none⟩ = some (.int .i64 ((rd_T32 y185 t181).f3)) := hcc36 3 _ rfl; have hx36_4 : w39.cell? ⟨go36, (t181 : Int).toNat * 5 + 4, none⟩ = some (.slice ua36_4 ((rd_T32 y185 t181).f4).length uc36_4) := hcc36 4 _ rfl; have hf36_0 : w39.frozen? ⟨go36, (t181 : Int).toNat * 5, none⟩ = false := hfr36 0; have hf36_1 : w39.frozen? ⟨go36, (t181 : Int).toNat * 5 + 1, none⟩ = false := hfr36 1; have hf36_2 : w39.frozen? ⟨go36, (t181 : Int).toNat * 5 + 2, none⟩ = false := hfr36 2; have hf36_3 : w39.frozen? ⟨go36, (t181 : Int).toNat * 5 + 3, none⟩ = false := hfr36 3; have hf36_4 : w39.frozen? ⟨go36, (t181 : Int).toNat * 5 + 4, none⟩ = false := hfr36 4; clear hcl36 hcc36 hfr36 hM36; replace p36 := eq_true p36; replace q36 := eq_true q36; have HX41 := Aside0.mk (show Kd.N k32 32 w39 w.heap.size (fun k_ => k_ ≠ gb168) (.slice (some ⟨go36, 0, none⟩) y185.length co40) y185 from (by (with_reducible repeat (first | apply Kd.N_alloc | apply Kd.N_drewN | apply Kd.N_drew)); exact HO187.out)); obtain ⟨ce41, hcl41, hM41, hcc41, hfr41⟩ := Kd.N_elem HX41.out z32 (t181 : Int) (of_decide_eq_true (by first | (with_reducible assumption) | assumption)) (by have h_ : (t181 : Int) < ((y185.length : Int) : Int) := of_decide_eq_true (by first | (with_reducible assumption) | assumption); first | exact h_ | (have e_ := (Kd.N_reads' HO187.out).1; omega) | simpa using h_); obtain ⟨ua41_4, uc41_4, rfl, ul41_4, ge41_4⟩ := k32_openF hM41; have HP41 := Kd.N_seg HX41.out (t181 : Int) (of_decide_eq_true (by first | (with_reducible assumption) | assumption)) (by have h_ : (t181 : Int) < ((y185.length : Int) : Int) := of_decide_eq_true (by first | (with_reducible assumption) | assumption); first | exact h_ | (have e_ := (Kd.N_reads' HO187.out).1; omega) | simpa using h_) (seg := [.int .i64 a3]) (j := 0) hcl41 hcc41 (show 1 ≤ 5 from by decide) (x' := (⟨a3, (rd_T32 y185 t181).f1, (rd_T32 y185 t181).f2, (rd_T32 y185 t181).f3, (rd_T32 y185 t181).f4⟩ : S32)) (k32_mkF _ _ (⟨a3, (rd_T32 y185 t181).f1, (rd_T32 y185 t181).f2, (rd_T32 y185 t181).f3, (rd_T32 y185 t181).f4⟩ : S32) ul41_4 ge41_4) (fun _ hk => hk); have hx41_0 := hcc41 0 _ rfl; (try simp only [show (k32).sz = 5 from rfl, Nat.mul_one, Nat.add_zero] at hx41_0); have hf41_0 := hfr41 0; (try simp only [show (k32).sz = 5 from rfl, Nat.mul_one, Nat.add_zero] at hf41_0); clear hcl41 hcc41 hfr41 hM41) | ((with_reducible refine gate_store (t := 3) (p := 79) rfl ?_); refine store_event (t := 3) (p := 79) (v := ?vo_w42) (w1 := (w39.setCell ⟨go36, (t181 : Int).toNat * 5, none⟩ (.int .i64 a3))) ?hg ?ho ?hn ?hr ?_; (case ho => rfl); (case hg => rfl); (case hn => rfl); (case hr => first | (go_simp; done) | (go_simp; rfl)); intro w42 hw; have hg : w39.grownBy w42 (some go36) := (by rw [hw]; exact HP41.2); have hp_ : Kd.N k32 32 w42 w.heap.size (fun k_ => k_ ≠ gb168) (.slice (some ⟨go36, 0, none⟩) y185.length co40) y189 := (by rw [hw, Ny189.out]; exact HP41.1); clear HP41; have n0_ := Aside0.mk (Kd.N_afterv (v := (.slice (some ⟨go36, 0, none⟩) y185.length co40)) (v1 := (.slice (some ⟨go36, 0, none⟩) y185.length co40)) (ok := (fun k_ => k_ ≠ gb168)) (by (with_reducible repeat (first | apply Kd.N_alloc | apply Kd.N_drewN | apply Kd.N_drew)); exact HO_15.out) hg (.inl rfl)); have n1_ := Aside0.mk (blk_grown (g := gb168) (o := .cells #[.int .i64 a6_0, .int .i64 a6_1, .int .i64 a6_2, .int .i64 a6_3, .int .i64 a6_4, .int .i64 a6_5, .int .i64 a6_6, .string a6_7] 24 (0, 0)) (by (with_reducible repeat (first | refine blk_drewN ?_ _ | refine blk_drew ?_ | refine blk_alloc ?_ _)); exact BK168.out) hg (Kd.N_ne HO187.out BK168.out (by decide))); have n2_ := Aside0.mk (hp_); have n3_ := Aside0.mk (Kd.V_afterv (v := (.slice (some ⟨go36, 0, none⟩) y185.length co40)) (v1 := (.slice (some ⟨go36, 0, none⟩) y185.length co40)) (ok := (fun k_ => k_ ≠ gb168)) (by (with_reducible repeat (first | apply Kd.V_alloc | apply Kd.V_drewN | apply Kd.V_drew)); exact HL188_4.out) hg (.inl rfl)); have n4_ := Aside0.mk ((by rw [hw]; exact below_set (HB.out) GB36.out : Below w.heap.size w w42)); clear HO_15; clear BK168; clear HO187; clear HL188_4; clear HB; have HO_15 := n0_; have BK168 := n1_; have HO187 := n2_; have HL188_4 := n3_; have HB := n4_; clear n0_ n1_ n2_ n3_ n4_; clear hg hw hp_))
                        go_meet
                        case rel => exact ⟨_, (y189), ((((rd_T32 y185 t181).f0) == a3)), (by first | rfl | (simp; done) | (simp [*]; done)), H', ⟨by have := HK1.out; have := HJ8.out; first | omega | exact Nat.le_refl _⟩, ⟨by (with_reducible repeat (first | apply Kd.N_alloc | apply Kd.N_drewN | apply Kd.N_drew)); exact HO187.out⟩, ⟨by (with_reducible repeat (first | refine blk_drewN ?_ _ | refine blk_drew ?_ | refine blk_alloc ?_ _)); exact BK168.out⟩, ⟨by repeat (first | (with_reducible first | exact HB.out | apply below_alloc | apply pw_below_drewN | apply below_drew1 | refine below_set ?_ GE168.out) | exact HB.out)⟩⟩
                      · rw [if_neg c35] at H
                        exact absurd H (by simp)
                    · rw [if_neg c34] at H
                      exact absurd H (by simp)
                  · rw [if_neg c33] at H
                    have c33b0 : (a5 == 1) = false := beq_eq_false_iff_ne.mpr c33
                    have c33b1 : (a5 != 1) = true := bne_iff_ne.mpr c33
                    by_cases c43 : a5 = 2
                    · rw [if_pos c43] at H
                      have c43b0 : (a5 == 2) = true := beq_iff_eq.mpr c43
                      have c43b1 : (a5 != 2) = false := bne_eq_false_iff_eq.mpr c43
                      clear c43
                      by_cases c44 : 0 ≤ t181
                      · rw [if_pos c44] at H
                        have c44b0 : decide (0 ≤ t181) = true := decide_eq_true c44
                        clear c44
                        by_cases c45 : t181 < (y185.length : Int)
                        · rw [if_pos c45] at H
                          have c45b0 : decide (t181 < (y185.length : Int)) = true := decide_eq_true c45
                          clear c45
                          by_cases c46 : ((rd_T32 y185 t181).f0) = 9
                          · rw [if_pos c46] at H
                            have c46b0 : (((rd_T32 y185 t181).f0) == 9) = true := beq_iff_eq.mpr c46
                            have c46b1 : (((rd_T32 y185 t181).f0) != 9) = false := bne_eq_false_iff_eq.mpr c46
                            clear c46
                            obtain ⟨y191, hy191⟩ : ∃ y_ : List (S32), y_ = (y185.set (t181 : Int).toNat (⟨(rd_T32 y185 t181).f0, a4, (rd_T32 y185 t181).f2, (rd_T32 y185 t181).f3, (rd_T32 y185 t181).f4⟩ : S32)) := ⟨_, rfl⟩
                            replace H : (broadsheetlaw27_FairTells.j2 kj8 a0 y191 true a6_0 a6_1 a6_2 a6_3 a6_4 a6_5 a6_6 a6_7) = some r := by first | (rw [hy191]; with_reducible exact H) | (have H2_ := (Option.bind_some _ _).symm.trans H; rw [hy191]; with_reducible exact H2_) | (have H2_ := (Option.bind_some _ _).symm.trans H; with_reducible exact H2_) | with_reducible exact H | (rw [hy191]; exact H) | exact H
                            have Ny191 := Aside0.mk hy191
                            clear hy191
                            have H' := Aside0.mk H
                            clear H
                            go_wp2_with (first | ((with_reducible refine gate_callee (f := 7) rfl ?_); refine goesL_ (some 58) rfl rfl Try.func7 (by kernel_rfl) rfl #[.int .i64 a2, .int .i64 0, .int .i64 (wrap64 ((x15_1.length : Int) - 1))] rfl (by (try simp only [List.map_toArray, List.map_cons, List.map_nil]); first | done | rfl | (simp only [List.length_drop, List.length_take]; rfl)) ?_; (with_reducible refine (broadsheetbook_Within.calls kj8 a2 0 (wrap64 ((x15_1.length : Int) - 1)) t181 _ A31.out).mono ?_); rintro e w' ⟨rfl, ⟨nd, rfl⟩⟩; refine ⟨_, rfl, ?_⟩; (try (rw [drewN_self wc]; generalize hq_ : World.drewN wc _ = wc; have n0_ : Aside0 (Kd.N k32 32 wc w.heap.size (fun k_ => k_ ≠ gb168) (.slice Ao29 x15_1.length co29) x15_1) := ⟨by rw [← hq_]; exact (by (with_reducible repeat (first | apply Kd.N_alloc | apply Kd.N_drewN | apply Kd.N_drew)); exact HO_15.out)⟩; have n1_ : Aside0 (wc.heap[gb168]? = some (.cells #[.int .i64 a6_0, .int .i64 a6_1, .int .i64 a6_2, .int .i64 a6_3, .int .i64 a6_4, .int .i64 a6_5, .int .i64 a6_6, .string a6_7] 24 (0, 0))) := ⟨by rw [← hq_]; exact (by (with_reducible repeat (first | refine blk_drewN ?_ _ | refine blk_drew ?_ | refine blk_alloc ?_ _)); exact BK168.out)⟩; have n2_ : Aside0 (Below w.heap.size w wc) := ⟨by rw [← hq_]; exact (by repeat (first | (with_reducible first | exact HB.out | apply below_alloc | apply pw_below_drewN | apply below_drew1 | refine below_set ?_ GE168.out) | exact HB.out))⟩; clear HO_15 BK168 HB hq_; have HO_15 := n0_; have BK168 := n1_; have HB := n2_; clear n0_ n1_ n2_))) | ((with_reducible refine gate_dst (N := 59) rfl ?_); refine Kd.N_lit k32 _ 32 ?hg (N' := 59) ?hd (xs := ([] : List (S32))) (inner := []) (ok := (fun k_ => some k_ ≠ (.slice Ao29 x15_1.length co29 : Value).ownBlock ∧ k_ ≠ gb168)) (okp := (fun k_ => some k_ ≠ (.slice Ao29 x15_1.length co29 : Value).ownBlock ∧ k_ ≠ gb168)) ?hr ?hp (fun _ hk => hk) ((show ∀ k_, wc.heap.size ≤ k_ → (fun k_ => some k_ ≠ (.slice Ao29 x15_1.length co29 : Value).ownBlock ∧ k_ ≠ gb168) k_ from fun k_ hk => ⟨Kd.fresh' (Kd.N_lt (by (with_reducible repeat (first | apply Kd.N_alloc | apply Kd.N_drewN | apply Kd.N_drew)); exact HO_15.out)) k_ hk, Kd.freshB (g := gb168) (o := .cells #[.int .i64 a6_0, .int .i64 a6_1, .int .i64 a6_2, .int .i64 a6_3, .int .i64 a6_4, .int .i64 a6_5, .int .i64 a6_6, .string a6_7] 24 (0, 0)) (by (with_reducible repeat (first | refine blk_drewN ?_ _ | refine blk_drew ?_ | refine blk_alloc ?_ _)); exact BK168.out) k_ hk⟩) _ (Nat.le_refl _)) (Below.refl _ _) (Nat.le_refl _) (by simp) ?_; (case hd => rfl); (case hg => rfl); (case hr => first | (go_simp; done) | (go_simp; rfl)); (case hp => exact (Reps.none _ _)); intro v183 w48 ho49 hb hg_ hnew_; clear hg_ hnew_; (first | rw [← Ny182.out] at ho49 | (simp only [Int.reduceToNat] at ho49; rw [← Ny182.out] at ho49)); have n0_ := Aside0.mk (Kd.N_elder' (by (with_reducible repeat (first | apply Kd.N_alloc | apply Kd.N_drewN | apply Kd.N_drew)); exact HO_15.out) (Kd.N_base ho49) hb); have n1_ := Aside0.mk (Kd.N_lower ho49 (below_size (by repeat (first | (with_reducible first | exact HB.out | apply below_alloc | apply pw_below_drewN | apply below_drew1 | refine below_set ?_ GE168.out) | exact HB.out)))); have n2_ := Aside0.mk (blk_below (g := gb168) (o := .cells #[.int .i64 a6_0, .int .i64 a6_1, .int .i64 a6_2, .int .i64 a6_3, .int .i64 a6_4, .int .i64 a6_5, .int .i64 a6_6, .string a6_7] 24 (0, 0)) (by (with_reducible repeat (first | refine blk_drewN ?_ _ | refine blk_drew ?_ | refine blk_alloc ?_ _)); exact BK168.out) hb); have n3_ := Aside0.mk (below_step (by repeat (first | (with_reducible first | exact HB.out | apply below_alloc | apply pw_below_drewN | apply below_drew1 | refine below_set ?_ GE168.out) | exact HB.out)) hb); clear HO_15; clear BK168; clear HB; have HO_15 := n0_; have HO184 := n1_; have BK168 := n2_; have HB := n3_; clear n0_ n1_ n2_ n3_; clear hb ho49) | ((with_reducible refine gate_builtin (b := .append) (xs := #[.tmp 59, .tmp 60]) rfl ?_); at_builtin; refine Kd.N_append_rows k32 (w0 := w) w.heap.size rfl (.tmp 59) (.tmp 60) 25 32 (.agg #[(.int .i64 0), (.int .i64 0), (.int .i64 0), (.int .i64 0), (.slice none 0 0)]) 56 rfl Try.underlying25 info32 rfl (by decide) (by omega) v183 y182 x15_1 _ _ _ (fun k_ => k_ ≠ gb168) (fun k_ => ((fun k_ => k_ ≠ gb168)) k_ ∧ some k_ ≠ (v183 : Value).ownBlock) rfl rfl ?aO ?aR (fun _ hk => hk) ?aF ?aB ?aS ?aL ?_; (case aR => exact (by skip; exact Kd.N_F (Kd.N_mono (ok' := (fun k_ => ((fun k_ => k_ ≠ gb168)) k_ ∧ some k_ ≠ (v183 : Value).ownBlock)) (HO_15.out) (fun k_ hk => ⟨hk.1, hk.2⟩)))); (case aB => exact (by repeat (first | (with_reducible first | exact HB.out | apply below_alloc | apply pw_below_drewN | apply below_drew1 | refine below_set ?_ GE168.out) | exact HB.out))); (case aF => exact (fun k_ hk => Kd.freshB (g := gb168) (o := .cells #[.int .i64 a6_0, .int .i64 a6_1, .int .i64 a6_2, .int .i64 a6_3, .int .i64 a6_4, .int .i64 a6_5, .int .i64 a6_6, .string a6_7] 24 (0, 0)) (by (with_reducible repeat (first | refine blk_drewN ?_ _ | refine blk_drew ?_ | refine blk_alloc ?_ _)); exact BK168.out) k_ hk)); (case aO => exact (by (with_reducible repeat (first | apply Kd.N_alloc | apply Kd.N_drewN | apply Kd.N_drew)); exact Kd.N_mono HO184.out (fun _ hk => hk.2))); (case aS => exact (below_size (by repeat (first | (with_reducible first | exact HB.out | apply below_alloc | apply pw_below_drewN | apply below_drew1 | refine below_set ?_ GE168.out) | exact HB.out)))); (case aL => have := LMc32.out; omega); intro v186 w50 ho hb hg hat; rw [← Ny185.out] at ho; have n0_ := Aside0.mk (Kd.N_afterv (ok := (fun k_ => k_ ≠ gb168)) (by (with_reducible repeat (first | apply Kd.N_alloc | apply Kd.N_drewN | apply Kd.N_drew)); exact HO_15.out) hg hat); have n1_ := Aside0.mk (blk_grown (g := gb168) (o := .cells #[.int .i64 a6_0, .int .i64 a6_1, .int .i64 a6_2, .int .i64 a6_3, .int .i64 a6_4, .int .i64 a6_5, .int .i64 a6_6, .string a6_7] 24 (0, 0)) (by (with_reducible repeat (first | refine blk_drewN ?_ _ | refine blk_drew ?_ | refine blk_alloc ?_ _)); exact BK168.out) hg (Kd.N_ne HO184.out BK168.out (by decide))); have n2_ := Aside0.mk (hb); have n3_ := Aside0.mk (ho); clear HO_15; clear BK168; clear HB; clear HO184; have HO_15 := n0_; have BK168 := n1_; have HB := n2_; have HO187 := n3_; clear n0_ n1_ n2_ n3_; clear ho hb hg hat; obtain ⟨Ao51, co51, eo51⟩ := Kd.N_slice HO187.out; subst eo51; have p190 : 0 ≤ (t181 : Int) := of_decide_eq_true (by first | (with_reducible assumption) | assumption); have q190 : t181 < (y185.length : Int) := of_decide_eq_true (by first | (with_reducible assumption) | assumption); obtain ⟨ad190, A190_4, c190_4, e190, hx190_0, hx190_1, hx190_2, hx190_3, hx190_4, hl190_4, hi190_4⟩ := at_T32 (Kd.N_reads' HO187.out).2.2 t181 p190 q190; cases e190; obtain ⟨ce190, hce190, hMe190, hcc190⟩ := Kd.N_get HO187.out z32 t181 p190 (by first | exact q190 | exact of_decide_eq_true (by first | (with_reducible assumption) | assumption) | (have e_ := (Kd.N_reads' HO187.out).1; omega)); obtain ⟨ua190_4, uc190_4, rfl, ul190_4, ge190_4⟩ := k32_openF hMe190; have hv190_4 := hcc190 4 _ rfl; rw [add_field _ _ 4 (by omega)] at hv190_4; replace hv190_4 := Option.some.inj (hv190_4.symm.trans hx190_4); injection hv190_4 with hva_ hvn_ hvc_; rw [hva_] at ge190_4; rw [hvc_] at ul190_4; have HL190_4 := Aside0.mk (show Kd.V (Kd.int .u8) 5 _ w.heap.size _ _ ((rd_T32 y185 t181).f4) from Kd.V_mk ul190_4 ge190_4); clear hva_ hvn_ hvc_ ge190_4 ul190_4; clear hcc190 hce190; have HR190_4 := Aside0.mk hi190_4; have HC190_4 := Aside0.mk hl190_4; clear hi190_4 hl190_4; replace p190 := eq_true p190; replace q190 := eq_true q190; have p47 : 0 ≤ (t181 : Int) := of_decide_eq_true (by first | (with_reducible assumption) | assumption); have q47 : (t181 : Int) < ((y185.length : Int) : Int) := of_decide_eq_true (by first | (with_reducible assumption) | assumption); obtain ⟨go47, co47, eo47, gb47, gl47, cl47, HG47⟩ := Kd.N_form HO187.out (by omega); (first | cases eo47 | (injection eo47 with ea_ en_ ec_; (first | subst ea_ | (injection ea_ with ea_; subst ea_)); subst ec_; clear en_)); have GB47 := Aside0.mk gb47; have GG47 := Aside0.mk HG47; clear gb47 gl47 HG47; (first | simp only [add_plain] at hx190_0 | skip); (first | simp only [add_plain] at hx190_1 | skip); (first | simp only [add_plain] at hx190_2 | skip); (first | simp only [add_plain] at hx190_3 | skip); (first | simp only [add_plain] at hx190_4 | skip); obtain ⟨ce47, hcl47, hM47, hcc47, hfr47⟩ := Kd.N_elem HO187.out z32 (t181 : Int) p47 q47; obtain ⟨ua47_4, uc47_4, rfl, ul47_4, ge47_4⟩ := k32_openF hM47; have hx47_0 : w50.cell? ⟨go47, (t181 : Int).toNat * 5, none⟩ = some (.int .i64 ((rd_T32 y185 t181).f0)) := hcc47 0 _ rfl; have hx47_1 : w50.cell? ⟨go47, (t181 : Int).toNat * 5 + 1, none⟩ = some (.int .i64 ((rd_T32 y185 t181).f1)) := hcc47 1 _ rfl; have hx47_2 : w50.cell? ⟨go47, (t181 : Int).toNat * 5 + 2, none⟩ = some (.int .i64 ((rd_T32 y185 t181).f2)) := hcc47 2 _ rfl; have hx47_3 : w50.cell? ⟨go47, (t181 : Int).toNat * 5 + 3, none⟩ = some (.int .i64 ((rd_T32 y185 t181).f3)) := hcc47 3 _ rfl; have hx47_4 : w50.cell? ⟨go47, (t181 : Int).toNat * 5 + 4, none⟩ = some (.slice ua47_4 ((rd_T32 y185 t181).f4).length uc47_4) := hcc47 4 _ rfl; have hf47_0 : w50.frozen? ⟨go47, (t181 : Int).toNat * 5, none⟩ = false := hfr47 0; have hf47_1 : w50.frozen? ⟨go47, (t181 : Int).toNat * 5 + 1, none⟩ = false := hfr47 1; have hf47_2 : w50.frozen? ⟨go47, (t181 : Int).toNat * 5 + 2, none⟩ = false := hfr47 2; have hf47_3 : w50.frozen? ⟨go47, (t181 : Int).toNat * 5 + 3, none⟩ = false := hfr47 3; have hf47_4 : w50.frozen? ⟨go47, (t181 : Int).toNat * 5 + 4, none⟩ = false := hfr47 4; clear hcl47 hcc47 hfr47 hM47; replace p47 := eq_true p47; replace q47 := eq_true q47; have HX52 := Aside0.mk (show Kd.N k32 32 w50 w.heap.size (fun k_ => k_ ≠ gb168) (.slice (some ⟨go47, 0, none⟩) y185.length co51) y185 from (by (with_reducible repeat (first | apply Kd.N_alloc | apply Kd.N_drewN | apply Kd.N_drew)); exact HO187.out)); obtain ⟨ce52, hcl52, hM52, hcc52, hfr52⟩ := Kd.N_elem HX52.out z32 (t181 : Int) (of_decide_eq_true (by first | (with_reducible assumption) | assumption)) (by have h_ : (t181 : Int) < ((y185.length : Int) : Int) := of_decide_eq_true (by first | (with_reducible assumption) | assumption); first | exact h_ | (have e_ := (Kd.N_reads' HO187.out).1; omega) | simpa using h_); obtain ⟨ua52_4, uc52_4, rfl, ul52_4, ge52_4⟩ := k32_openF hM52; have HP52 := Kd.N_seg HX52.out (t181 : Int) (of_decide_eq_true (by first | (with_reducible assumption) | assumption)) (by have h_ : (t181 : Int) < ((y185.length : Int) : Int) := of_decide_eq_true (by first | (with_reducible assumption) | assumption); first | exact h_ | (have e_ := (Kd.N_reads' HO187.out).1; omega) | simpa using h_) (seg := [.int .i64 a4]) (j := 1) hcl52 hcc52 (show 2 ≤ 5 from by decide) (x' := (⟨(rd_T32 y185 t181).f0, a4, (rd_T32 y185 t181).f2, (rd_T32 y185 t181).f3, (rd_T32 y185 t181).f4⟩ : S32)) (k32_mkF _ _ (⟨(rd_T32 y185 t181).f0, a4, (rd_T32 y185 t181).f2, (rd_T32 y185 t181).f3, (rd_T32 y185 t181).f4⟩ : S32) ul52_4 ge52_4) (fun _ hk => hk); have hx52_1 := hcc52 1 _ rfl; (try simp only [show (k32).sz = 5 from rfl, Nat.mul_one, Nat.add_zero] at hx52_1); have hf52_1 := hfr52 1; (try simp only [show (k32).sz = 5 from rfl, Nat.mul_one, Nat.add_zero] at hf52_1); clear hcl52 hcc52 hfr52 hM52) | ((with_reducible refine gate_store (t := 3) (p := 120) rfl ?_); refine store_event (t := 3) (p := 120) (v := ?vo_w53) (w1 := (w50.setCell ⟨go47, (t181 : Int).toNat * 5 + 1, none⟩ (.int .i64 a4))) ?hg ?ho ?hn ?hr ?_; (case ho => rfl); (case hg => rfl); (case hn => rfl); (case hr => first | (go_simp; done) | (go_simp; rfl)); intro w53 hw; have hg : w50.grownBy w53 (some go47) := (by rw [hw]; exact HP52.2); have hp_ : Kd.N k32 32 w53 w.heap.size (fun k_ => k_ ≠ gb168) (.slice (some ⟨go47, 0, none⟩) y185.length co51) y191 := (by rw [hw, Ny191.out]; exact HP52.1); clear HP52; have n0_ := Aside0.mk (Kd.N_afterv (v := (.slice (some ⟨go47, 0, none⟩) y185.length co51)) (v1 := (.slice (some ⟨go47, 0, none⟩) y185.length co51)) (ok := (fun k_ => k_ ≠ gb168)) (by (with_reducible repeat (first | apply Kd.N_alloc | apply Kd.N_drewN | apply Kd.N_drew)); exact HO_15.out) hg (.inl rfl)); have n1_ := Aside0.mk (blk_grown (g := gb168) (o := .cells #[.int .i64 a6_0, .int .i64 a6_1, .int .i64 a6_2, .int .i64 a6_3, .int .i64 a6_4, .int .i64 a6_5, .int .i64 a6_6, .string a6_7] 24 (0, 0)) (by (with_reducible repeat (first | refine blk_drewN ?_ _ | refine blk_drew ?_ | refine blk_alloc ?_ _)); exact BK168.out) hg (Kd.N_ne HO187.out BK168.out (by decide))); have n2_ := Aside0.mk (hp_); have n3_ := Aside0.mk (Kd.V_afterv (v := (.slice (some ⟨go47, 0, none⟩) y185.length co51)) (v1 := (.slice (some ⟨go47, 0, none⟩) y185.length co51)) (ok := (fun k_ => k_ ≠ gb168)) (by (with_reducible repeat (first | apply Kd.V_alloc | apply Kd.V_drewN | apply Kd.V_drew)); exact HL190_4.out) hg (.inl rfl)); have n4_ := Aside0.mk ((by rw [hw]; exact below_set (HB.out) GB47.out : Below w.heap.size w w53)); clear HO_15; clear BK168; clear HO187; clear HL190_4; clear HB; have HO_15 := n0_; have BK168 := n1_; have HO187 := n2_; have HL190_4 := n3_; have HB := n4_; clear n0_ n1_ n2_ n3_ n4_; clear hg hw hp_))
                            go_meet
                            case rel => exact ⟨_, (y191), (true), (by first | rfl | (simp; done) | (simp [*]; done)), H', ⟨by have := HK1.out; have := HJ8.out; first | omega | exact Nat.le_refl _⟩, ⟨by (with_reducible repeat (first | apply Kd.N_alloc | apply Kd.N_drewN | apply Kd.N_drew)); exact HO187.out⟩, ⟨by (with_reducible repeat (first | refine blk_drewN ?_ _ | refine blk_drew ?_ | refine blk_alloc ?_ _)); exact BK168.out⟩, ⟨by repeat (first | (with_reducible first | exact HB.out | apply below_alloc | apply pw_below_drewN | apply below_drew1 | refine below_set ?_ GE168.out) | exact HB.out)⟩⟩
                          · rw [if_neg c46] at H
                            have c46b0 : (((rd_T32 y185 t181).f0) == 9) = false := beq_eq_false_iff_ne.mpr c46
                            have c46b1 : (((rd_T32 y185 t181).f0) != 9) = true := bne_iff_ne.mpr c46
                            by_cases c54 : ((rd_T32 y185 t181).f1) = a4
                            · rw [if_pos c54] at H
                              have c54b0 : (((rd_T32 y185 t181).f1) == a4) = true := beq_iff_eq.mpr c54
                              have c54b1 : (((rd_T32 y185 t181).f1) != a4) = false := bne_eq_false_iff_eq.mpr c54
                              clear c54
                              obtain ⟨y193, hy193⟩ : ∃ y_ : List (S32), y_ = (y185.set (t181 : Int).toNat (⟨(rd_T32 y185 t181).f0, a4, (rd_T32 y185 t181).f2, (rd_T32 y185 t181).f3, (rd_T32 y185 t181).f4⟩ : S32)) := ⟨_, rfl⟩
                              replace H : (broadsheetlaw27_FairTells.j2 kj8 a0 y193 true a6_0 a6_1 a6_2 a6_3 a6_4 a6_5 a6_6 a6_7) = some r := by first | (rw [hy193]; with_reducible exact H) | (have H2_ := (Option.bind_some _ _).symm.trans H; rw [hy193]; with_reducible exact H2_) | (have H2_ := (Option.bind_some _ _).symm.trans H; with_reducible exact H2_) | with_reducible exact H | (rw [hy193]; exact H) | exact H
                              have Ny193 := Aside0.mk hy193
                              clear hy193
                              have H' := Aside0.mk H
                              clear H
                              go_wp2_with (first | ((with_reducible refine gate_callee (f := 7) rfl ?_); refine goesL_ (some 58) rfl rfl Try.func7 (by kernel_rfl) rfl #[.int .i64 a2, .int .i64 0, .int .i64 (wrap64 ((x15_1.length : Int) - 1))] rfl (by (try simp only [List.map_toArray, List.map_cons, List.map_nil]); first | done | rfl | (simp only [List.length_drop, List.length_take]; rfl)) ?_; (with_reducible refine (broadsheetbook_Within.calls kj8 a2 0 (wrap64 ((x15_1.length : Int) - 1)) t181 _ A31.out).mono ?_); rintro e w' ⟨rfl, ⟨nd, rfl⟩⟩; refine ⟨_, rfl, ?_⟩; (try (rw [drewN_self wc]; generalize hq_ : World.drewN wc _ = wc; have n0_ : Aside0 (Kd.N k32 32 wc w.heap.size (fun k_ => k_ ≠ gb168) (.slice Ao29 x15_1.length co29) x15_1) := ⟨by rw [← hq_]; exact (by (with_reducible repeat (first | apply Kd.N_alloc | apply Kd.N_drewN | apply Kd.N_drew)); exact HO_15.out)⟩; have n1_ : Aside0 (wc.heap[gb168]? = some (.cells #[.int .i64 a6_0, .int .i64 a6_1, .int .i64 a6_2, .int .i64 a6_3, .int .i64 a6_4, .int .i64 a6_5, .int .i64 a6_6, .string a6_7] 24 (0, 0))) := ⟨by rw [← hq_]; exact (by (with_reducible repeat (first | refine blk_drewN ?_ _ | refine blk_drew ?_ | refine blk_alloc ?_ _)); exact BK168.out)⟩; have n2_ : Aside0 (Below w.heap.size w wc) := ⟨by rw [← hq_]; exact (by repeat (first | (with_reducible first | exact HB.out | apply below_alloc | apply pw_below_drewN | apply below_drew1 | refine below_set ?_ GE168.out) | exact HB.out))⟩; clear HO_15 BK168 HB hq_; have HO_15 := n0_; have BK168 := n1_; have HB := n2_; clear n0_ n1_ n2_))) | ((with_reducible refine gate_dst (N := 59) rfl ?_); refine Kd.N_lit k32 _ 32 ?hg (N' := 59) ?hd (xs := ([] : List (S32))) (inner := []) (ok := (fun k_ => some k_ ≠ (.slice Ao29 x15_1.length co29 : Value).ownBlock ∧ k_ ≠ gb168)) (okp := (fun k_ => some k_ ≠ (.slice Ao29 x15_1.length co29 : Value).ownBlock ∧ k_ ≠ gb168)) ?hr ?hp (fun _ hk => hk) ((show ∀ k_, wc.heap.size ≤ k_ → (fun k_ => some k_ ≠ (.slice Ao29 x15_1.length co29 : Value).ownBlock ∧ k_ ≠ gb168) k_ from fun k_ hk => ⟨Kd.fresh' (Kd.N_lt (by (with_reducible repeat (first | apply Kd.N_alloc | apply Kd.N_drewN | apply Kd.N_drew)); exact HO_15.out)) k_ hk, Kd.freshB (g := gb168) (o := .cells #[.int .i64 a6_0, .int .i64 a6_1, .int .i64 a6_2, .int .i64 a6_3, .int .i64 a6_4, .int .i64 a6_5, .int .i64 a6_6, .string a6_7] 24 (0, 0)) (by (with_reducible repeat (first | refine blk_drewN ?_ _ | refine blk_drew ?_ | refine blk_alloc ?_ _)); exact BK168.out) k_ hk⟩) _ (Nat.le_refl _)) (Below.refl _ _) (Nat.le_refl _) (by simp) ?_; (case hd => rfl); (case hg => rfl); (case hr => first | (go_simp; done) | (go_simp; rfl)); (case hp => exact (Reps.none _ _)); intro v183 w56 ho57 hb hg_ hnew_; clear hg_ hnew_; (first | rw [← Ny182.out] at ho57 | (simp only [Int.reduceToNat] at ho57; rw [← Ny182.out] at ho57)); have n0_ := Aside0.mk (Kd.N_elder' (by (with_reducible repeat (first | apply Kd.N_alloc | apply Kd.N_drewN | apply Kd.N_drew)); exact HO_15.out) (Kd.N_base ho57) hb); have n1_ := Aside0.mk (Kd.N_lower ho57 (below_size (by repeat (first | (with_reducible first | exact HB.out | apply below_alloc | apply pw_below_drewN | apply below_drew1 | refine below_set ?_ GE168.out) | exact HB.out)))); have n2_ := Aside0.mk (blk_below (g := gb168) (o := .cells #[.int .i64 a6_0, .int .i64 a6_1, .int .i64 a6_2, .int .i64 a6_3, .int .i64 a6_4, .int .i64 a6_5, .int .i64 a6_6, .string a6_7] 24 (0, 0)) (by (with_reducible repeat (first | refine blk_drewN ?_ _ | refine blk_drew ?_ | refine blk_alloc ?_ _)); exact BK168.out) hb); have n3_ := Aside0.mk (below_step (by repeat (first | (with_reducible first | exact HB.out | apply below_alloc | apply pw_below_drewN | apply below_drew1 | refine below_set ?_ GE168.out) | exact HB.out)) hb); clear HO_15; clear BK168; clear HB; have HO_15 := n0_; have HO184 := n1_; have BK168 := n2_; have HB := n3_; clear n0_ n1_ n2_ n3_; clear hb ho57) | ((with_reducible refine gate_builtin (b := .append) (xs := #[.tmp 59, .tmp 60]) rfl ?_); at_builtin; refine Kd.N_append_rows k32 (w0 := w) w.heap.size rfl (.tmp 59) (.tmp 60) 25 32 (.agg #[(.int .i64 0), (.int .i64 0), (.int .i64 0), (.int .i64 0), (.slice none 0 0)]) 56 rfl Try.underlying25 info32 rfl (by decide) (by omega) v183 y182 x15_1 _ _ _ (fun k_ => k_ ≠ gb168) (fun k_ => ((fun k_ => k_ ≠ gb168)) k_ ∧ some k_ ≠ (v183 : Value).ownBlock) rfl rfl ?aO ?aR (fun _ hk => hk) ?aF ?aB ?aS ?aL ?_; (case aR => exact (by skip; exact Kd.N_F (Kd.N_mono (ok' := (fun k_ => ((fun k_ => k_ ≠ gb168)) k_ ∧ some k_ ≠ (v183 : Value).ownBlock)) (HO_15.out) (fun k_ hk => ⟨hk.1, hk.2⟩)))); (case aB => exact (by repeat (first | (with_reducible first | exact HB.out | apply below_alloc | apply pw_below_drewN | apply below_drew1 | refine below_set ?_ GE168.out) | exact HB.out))); (case aF => exact (fun k_ hk => Kd.freshB (g := gb168) (o := .cells #[.int .i64 a6_0, .int .i64 a6_1, .int .i64 a6_2, .int .i64 a6_3, .int .i64 a6_4, .int .i64 a6_5, .int .i64 a6_6, .string a6_7] 24 (0, 0)) (by (with_reducible repeat (first | refine blk_drewN ?_ _ | refine blk_drew ?_ | refine blk_alloc ?_ _)); exact BK168.out) k_ hk)); (case aO => exact (by (with_reducible repeat (first | apply Kd.N_alloc | apply Kd.N_drewN | apply Kd.N_drew)); exact Kd.N_mono HO184.out (fun _ hk => hk.2))); (case aS => exact (below_size (by repeat (first | (with_reducible first | exact HB.out | apply below_alloc | apply pw_below_drewN | apply below_drew1 | refine below_set ?_ GE168.out) | exact HB.out)))); (case aL => have := LMc32.out; omega); intro v186 w58 ho hb hg hat; rw [← Ny185.out] at ho; have n0_ := Aside0.mk (Kd.N_afterv (ok := (fun k_ => k_ ≠ gb168)) (by (with_reducible repeat (first | apply Kd.N_alloc | apply Kd.N_drewN | apply Kd.N_drew)); exact HO_15.out) hg hat); have n1_ := Aside0.mk (blk_grown (g := gb168) (o := .cells #[.int .i64 a6_0, .int .i64 a6_1, .int .i64 a6_2, .int .i64 a6_3, .int .i64 a6_4, .int .i64 a6_5, .int .i64 a6_6, .string a6_7] 24 (0, 0)) (by (with_reducible repeat (first | refine blk_drewN ?_ _ | refine blk_drew ?_ | refine blk_alloc ?_ _)); exact BK168.out) hg (Kd.N_ne HO184.out BK168.out (by decide))); have n2_ := Aside0.mk (hb); have n3_ := Aside0.mk (ho); clear HO_15; clear BK168; clear HB; clear HO184; have HO_15 := n0_; have BK168 := n1_; have HB := n2_; have HO187 := n3_; clear n0_ n1_ n2_ n3_; clear ho hb hg hat; obtain ⟨Ao59, co59, eo59⟩ := Kd.N_slice HO187.out; subst eo59; have p190 : 0 ≤ (t181 : Int) := of_decide_eq_true (by first | (with_reducible assumption) | assumption); have q190 : t181 < (y185.length : Int) := of_decide_eq_true (by first | (with_reducible assumption) | assumption); obtain ⟨ad190, A190_4, c190_4, e190, hx190_0, hx190_1, hx190_2, hx190_3, hx190_4, hl190_4, hi190_4⟩ := at_T32 (Kd.N_reads' HO187.out).2.2 t181 p190 q190; cases e190; obtain ⟨ce190, hce190, hMe190, hcc190⟩ := Kd.N_get HO187.out z32 t181 p190 (by first | exact q190 | exact of_decide_eq_true (by first | (with_reducible assumption) | assumption) | (have e_ := (Kd.N_reads' HO187.out).1; omega)); obtain ⟨ua190_4, uc190_4, rfl, ul190_4, ge190_4⟩ := k32_openF hMe190; have hv190_4 := hcc190 4 _ rfl; rw [add_field _ _ 4 (by omega)] at hv190_4; replace hv190_4 := Option.some.inj (hv190_4.symm.trans hx190_4); injection hv190_4 with hva_ hvn_ hvc_; rw [hva_] at ge190_4; rw [hvc_] at ul190_4; have HL190_4 := Aside0.mk (show Kd.V (Kd.int .u8) 5 _ w.heap.size _ _ ((rd_T32 y185 t181).f4) from Kd.V_mk ul190_4 ge190_4); clear hva_ hvn_ hvc_ ge190_4 ul190_4; clear hcc190 hce190; have HR190_4 := Aside0.mk hi190_4; have HC190_4 := Aside0.mk hl190_4; clear hi190_4 hl190_4; replace p190 := eq_true p190; replace q190 := eq_true q190; have p192 : 0 ≤ (t181 : Int) := of_decide_eq_true (by first | (with_reducible assumption) | assumption); have q192 : t181 < (y185.length : Int) := of_decide_eq_true (by first | (with_reducible assumption) | assumption); obtain ⟨ad192, A192_4, c192_4, e192, hx192_0, hx192_1, hx192_2, hx192_3, hx192_4, hl192_4, hi192_4⟩ := at_T32 (Kd.N_reads' HO187.out).2.2 t181 p192 q192; obtain rfl : ad190 = ad192 := (by injection e192); obtain ⟨ce192, hce192, hMe192, hcc192⟩ := Kd.N_get HO187.out z32 t181 p192 (by first | exact q192 | exact of_decide_eq_true (by first | (with_reducible assumption) | assumption) | (have e_ := (Kd.N_reads' HO187.out).1; omega)); obtain ⟨ua192_4, uc192_4, rfl, ul192_4, ge192_4⟩ := k32_openF hMe192; have hv192_4 := hcc192 4 _ rfl; rw [add_field _ _ 4 (by omega)] at hv192_4; replace hv192_4 := Option.some.inj (hv192_4.symm.trans hx192_4); injection hv192_4 with hva_ hvn_ hvc_; rw [hva_] at ge192_4; rw [hvc_] at ul192_4; have HL192_4 := Aside0.mk (show Kd.V (Kd.int .u8) 5 _ w.heap.size _ _ ((rd_T32 y185 t181).f4) from Kd.V_mk ul192_4 ge192_4); clear hva_ hvn_ hvc_ ge192_4 ul192_4; clear hcc192 hce192; have HR192_4 := Aside0.mk hi192_4; have HC192_4 := Aside0.mk hl192_4; clear hi192_4 hl192_4; replace p192 := eq_true p192; replace q192 := eq_true q192; have ea_ := Option.some.inj (hx190_4.symm.trans hx192_4); injection ea_ with ea_ en_ ec_; subst ea_; subst ec_; clear en_; have p55 : 0 ≤ (t181 : Int) := of_decide_eq_true (by first | (with_reducible assumption) | assumption); have q55 : (t181 : Int) < ((y185.length : Int) : Int) := of_decide_eq_true (by first | (with_reducible assumption) | assumption); obtain ⟨go55, co55, eo55, gb55, gl55, cl55, HG55⟩ := Kd.N_form HO187.out (by omega); (first | cases eo55 | (injection eo55 with ea_ en_ ec_; (first | subst ea_ | (injection ea_ with ea_; subst ea_)); subst ec_; clear en_)); have GB55 := Aside0.mk gb55; have GG55 := Aside0.mk HG55; clear gb55 gl55 HG55; (first | simp only [add_plain] at hx190_0 | skip); (first | simp only [add_plain] at hx190_1 | skip); (first | simp only [add_plain] at hx190_2 | skip); (first | simp only [add_plain] at hx190_3 | skip); (first | simp only [add_plain] at hx190_4 | skip); (first | simp only [add_plain] at hx192_0 | skip); (first | simp only [add_plain] at hx192_1 | skip); (first | simp only [add_plain] at hx192_2 | skip); (first | simp only [add_plain] at hx192_3 | skip); (first | simp only [add_plain] at hx192_4 | skip); obtain ⟨ce55, hcl55, hM55, hcc55, hfr55⟩ := Kd.N_elem HO187.out z32 (t181 : Int) p55 q55; obtain ⟨ua55_4, uc55_4, rfl, ul55_4, ge55_4⟩ := k32_openF hM55; have hx55_0 : w58.cell? ⟨go55, (t181 : Int).toNat * 5, none⟩ = some (.int .i64 ((rd_T32 y185 t181).f0)) := hcc55 0 _ rfl; have hx55_1 : w58.cell? ⟨go55, (t181 : Int).toNat * 5 + 1, none⟩ = some (.int .i64 ((rd_T32 y185 t181).f1)) := hcc55 1 _ rfl; have hx55_2 : w58.cell? ⟨go55, (t181 : Int).toNat * 5 + 2, none⟩ = some (.int .i64 ((rd_T32 y185 t181).f2)) := hcc55 2 _ rfl; have hx55_3 : w58.cell? ⟨go55, (t181 : Int).toNat * 5 + 3, none⟩ = some (.int .i64 ((rd_T32 y185 t181).f3)) := hcc55 3 _ rfl; have hx55_4 : w58.cell? ⟨go55, (t181 : Int).toNat * 5 + 4, none⟩ = some (.slice ua55_4 ((rd_T32 y185 t181).f4).length uc55_4) := hcc55 4 _ rfl; have hf55_0 : w58.frozen? ⟨go55, (t181 : Int).toNat * 5, none⟩ = false := hfr55 0; have hf55_1 : w58.frozen? ⟨go55, (t181 : Int).toNat * 5 + 1, none⟩ = false := hfr55 1; have hf55_2 : w58.frozen? ⟨go55, (t181 : Int).toNat * 5 + 2, none⟩ = false := hfr55 2; have hf55_3 : w58.frozen? ⟨go55, (t181 : Int).toNat * 5 + 3, none⟩ = false := hfr55 3; have hf55_4 : w58.frozen? ⟨go55, (t181 : Int).toNat * 5 + 4, none⟩ = false := hfr55 4; clear hcl55 hcc55 hfr55 hM55; replace p55 := eq_true p55; replace q55 := eq_true q55; have HX60 := Aside0.mk (show Kd.N k32 32 w58 w.heap.size (fun k_ => k_ ≠ gb168) (.slice (some ⟨go55, 0, none⟩) y185.length co59) y185 from (by (with_reducible repeat (first | apply Kd.N_alloc | apply Kd.N_drewN | apply Kd.N_drew)); exact HO187.out)); obtain ⟨ce60, hcl60, hM60, hcc60, hfr60⟩ := Kd.N_elem HX60.out z32 (t181 : Int) (of_decide_eq_true (by first | (with_reducible assumption) | assumption)) (by have h_ : (t181 : Int) < ((y185.length : Int) : Int) := of_decide_eq_true (by first | (with_reducible assumption) | assumption); first | exact h_ | (have e_ := (Kd.N_reads' HO187.out).1; omega) | simpa using h_); obtain ⟨ua60_4, uc60_4, rfl, ul60_4, ge60_4⟩ := k32_openF hM60; have HP60 := Kd.N_seg HX60.out (t181 : Int) (of_decide_eq_true (by first | (with_reducible assumption) | assumption)) (by have h_ : (t181 : Int) < ((y185.length : Int) : Int) := of_decide_eq_true (by first | (with_reducible assumption) | assumption); first | exact h_ | (have e_ := (Kd.N_reads' HO187.out).1; omega) | simpa using h_) (seg := [.int .i64 a4]) (j := 1) hcl60 hcc60 (show 2 ≤ 5 from by decide) (x' := (⟨(rd_T32 y185 t181).f0, a4, (rd_T32 y185 t181).f2, (rd_T32 y185 t181).f3, (rd_T32 y185 t181).f4⟩ : S32)) (k32_mkF _ _ (⟨(rd_T32 y185 t181).f0, a4, (rd_T32 y185 t181).f2, (rd_T32 y185 t181).f3, (rd_T32 y185 t181).f4⟩ : S32) ul60_4 ge60_4) (fun _ hk => hk); have hx60_1 := hcc60 1 _ rfl; (try simp only [show (k32).sz = 5 from rfl, Nat.mul_one, Nat.add_zero] at hx60_1); have hf60_1 := hfr60 1; (try simp only [show (k32).sz = 5 from rfl, Nat.mul_one, Nat.add_zero] at hf60_1); clear hcl60 hcc60 hfr60 hM60) | ((with_reducible refine gate_store (t := 3) (p := 120) rfl ?_); refine store_event (t := 3) (p := 120) (v := ?vo_w61) (w1 := (w58.setCell ⟨go55, (t181 : Int).toNat * 5 + 1, none⟩ (.int .i64 a4))) ?hg ?ho ?hn ?hr ?_; (case ho => rfl); (case hg => rfl); (case hn => rfl); (case hr => first | (go_simp; done) | (go_simp; rfl)); intro w61 hw; have hg : w58.grownBy w61 (some go55) := (by rw [hw]; exact HP60.2); have hp_ : Kd.N k32 32 w61 w.heap.size (fun k_ => k_ ≠ gb168) (.slice (some ⟨go55, 0, none⟩) y185.length co59) y193 := (by rw [hw, Ny193.out]; exact HP60.1); clear HP60; have n0_ := Aside0.mk (Kd.N_afterv (v := (.slice (some ⟨go55, 0, none⟩) y185.length co59)) (v1 := (.slice (some ⟨go55, 0, none⟩) y185.length co59)) (ok := (fun k_ => k_ ≠ gb168)) (by (with_reducible repeat (first | apply Kd.N_alloc | apply Kd.N_drewN | apply Kd.N_drew)); exact HO_15.out) hg (.inl rfl)); have n1_ := Aside0.mk (blk_grown (g := gb168) (o := .cells #[.int .i64 a6_0, .int .i64 a6_1, .int .i64 a6_2, .int .i64 a6_3, .int .i64 a6_4, .int .i64 a6_5, .int .i64 a6_6, .string a6_7] 24 (0, 0)) (by (with_reducible repeat (first | refine blk_drewN ?_ _ | refine blk_drew ?_ | refine blk_alloc ?_ _)); exact BK168.out) hg (Kd.N_ne HO187.out BK168.out (by decide))); have n2_ := Aside0.mk (hp_); have n3_ := Aside0.mk (Kd.V_afterv (v := (.slice (some ⟨go55, 0, none⟩) y185.length co59)) (v1 := (.slice (some ⟨go55, 0, none⟩) y185.length co59)) (ok := (fun k_ => k_ ≠ gb168)) (by (with_reducible repeat (first | apply Kd.V_alloc | apply Kd.V_drewN | apply Kd.V_drew)); exact HL190_4.out) hg (.inl rfl)); have n4_ := Aside0.mk (Kd.V_afterv (v := (.slice (some ⟨go55, 0, none⟩) y185.length co59)) (v1 := (.slice (some ⟨go55, 0, none⟩) y185.length co59)) (ok := (fun k_ => k_ ≠ gb168)) (by (with_reducible repeat (first | apply Kd.V_alloc | apply Kd.V_drewN | apply Kd.V_drew)); exact HL192_4.out) hg (.inl rfl)); have n5_ := Aside0.mk ((by rw [hw]; exact below_set (HB.out) GB55.out : Below w.heap.size w w61)); clear HO_15; clear BK168; clear HO187; clear HL190_4; clear HL192_4; clear HB; have HO_15 := n0_; have BK168 := n1_; have HO187 := n2_; have HL190_4 := n3_; have HL192_4 := n4_; have HB := n5_; clear n0_ n1_ n2_ n3_ n4_ n5_; clear hg hw hp_))
                              go_meet
                              case rel => exact ⟨_, (y193), (true), (by first | rfl | (simp; done) | (simp [*]; done)), H', ⟨by have := HK1.out; have := HJ8.out; first | omega | exact Nat.le_refl _⟩, ⟨by (with_reducible repeat (first | apply Kd.N_alloc | apply Kd.N_drewN | apply Kd.N_drew)); exact HO187.out⟩, ⟨by (with_reducible repeat (first | refine blk_drewN ?_ _ | refine blk_drew ?_ | refine blk_alloc ?_ _)); exact BK168.out⟩, ⟨by repeat (first | (with_reducible first | exact HB.out | apply below_alloc | apply pw_below_drewN | apply below_drew1 | refine below_set ?_ GE168.out) | exact HB.out)⟩⟩
                            · rw [if_neg c54] at H
                              have c54b0 : (((rd_T32 y185 t181).f1) == a4) = false := beq_eq_false_iff_ne.mpr c54
                              have c54b1 : (((rd_T32 y185 t181).f1) != a4) = true := bne_iff_ne.mpr c54
                              by_cases c62 : ((rd_T32 y185 t181).f0) = 2
                              · rw [if_pos c62] at H
                                have c62b0 : (((rd_T32 y185 t181).f0) == 2) = true := beq_iff_eq.mpr c62
                                have c62b1 : (((rd_T32 y185 t181).f0) != 2) = false := bne_eq_false_iff_eq.mpr c62
                                clear c62
                                obtain ⟨y195, hy195⟩ : ∃ y_ : List (S32), y_ = (y185.set (t181 : Int).toNat (⟨(rd_T32 y185 t181).f0, a4, (rd_T32 y185 t181).f2, (rd_T32 y185 t181).f3, (rd_T32 y185 t181).f4⟩ : S32)) := ⟨_, rfl⟩
                                replace H : (broadsheetlaw27_FairTells.j2 kj8 a0 y195 false a6_0 a6_1 a6_2 a6_3 a6_4 a6_5 a6_6 a6_7) = some r := by first | (rw [hy195]; with_reducible exact H) | (have H2_ := (Option.bind_some _ _).symm.trans H; rw [hy195]; with_reducible exact H2_) | (have H2_ := (Option.bind_some _ _).symm.trans H; with_reducible exact H2_) | with_reducible exact H | (rw [hy195]; exact H) | exact H
                                have Ny195 := Aside0.mk hy195
                                clear hy195
                                have H' := Aside0.mk H
                                clear H
                                go_wp2_with (first | ((with_reducible refine gate_callee (f := 7) rfl ?_); refine goesL_ (some 58) rfl rfl Try.func7 (by kernel_rfl) rfl #[.int .i64 a2, .int .i64 0, .int .i64 (wrap64 ((x15_1.length : Int) - 1))] rfl (by (try simp only [List.map_toArray, List.map_cons, List.map_nil]); first | done | rfl | (simp only [List.length_drop, List.length_take]; rfl)) ?_; (with_reducible refine (broadsheetbook_Within.calls kj8 a2 0 (wrap64 ((x15_1.length : Int) - 1)) t181 _ A31.out).mono ?_); rintro e w' ⟨rfl, ⟨nd, rfl⟩⟩; refine ⟨_, rfl, ?_⟩; (try (rw [drewN_self wc]; generalize hq_ : World.drewN wc _ = wc; have n0_ : Aside0 (Kd.N k32 32 wc w.heap.size (fun k_ => k_ ≠ gb168) (.slice Ao29 x15_1.length co29) x15_1) := ⟨by rw [← hq_]; exact (by (with_reducible repeat (first | apply Kd.N_alloc | apply Kd.N_drewN | apply Kd.N_drew)); exact HO_15.out)⟩; have n1_ : Aside0 (wc.heap[gb168]? = some (.cells #[.int .i64 a6_0, .int .i64 a6_1, .int .i64 a6_2, .int .i64 a6_3, .int .i64 a6_4, .int .i64 a6_5, .int .i64 a6_6, .string a6_7] 24 (0, 0))) := ⟨by rw [← hq_]; exact (by (with_reducible repeat (first | refine blk_drewN ?_ _ | refine blk_drew ?_ | refine blk_alloc ?_ _)); exact BK168.out)⟩; have n2_ : Aside0 (Below w.heap.size w wc) := ⟨by rw [← hq_]; exact (by repeat (first | (with_reducible first | exact HB.out | apply below_alloc | apply pw_below_drewN | apply below_drew1 | refine below_set ?_ GE168.out) | exact HB.out))⟩; clear HO_15 BK168 HB hq_; have HO_15 := n0_; have BK168 := n1_; have HB := n2_; clear n0_ n1_ n2_))) | ((with_reducible refine gate_dst (N := 59) rfl ?_); refine Kd.N_lit k32 _ 32 ?hg (N' := 59) ?hd (xs := ([] : List (S32))) (inner := []) (ok := (fun k_ => some k_ ≠ (.slice Ao29 x15_1.length co29 : Value).ownBlock ∧ k_ ≠ gb168)) (okp := (fun k_ => some k_ ≠ (.slice Ao29 x15_1.length co29 : Value).ownBlock ∧ k_ ≠ gb168)) ?hr ?hp (fun _ hk => hk) ((show ∀ k_, wc.heap.size ≤ k_ → (fun k_ => some k_ ≠ (.slice Ao29 x15_1.length co29 : Value).ownBlock ∧ k_ ≠ gb168) k_ from fun k_ hk => ⟨Kd.fresh' (Kd.N_lt (by (with_reducible repeat (first | apply Kd.N_alloc | apply Kd.N_drewN | apply Kd.N_drew)); exact HO_15.out)) k_ hk, Kd.freshB (g := gb168) (o := .cells #[.int .i64 a6_0, .int .i64 a6_1, .int .i64 a6_2, .int .i64 a6_3, .int .i64 a6_4, .int .i64 a6_5, .int .i64 a6_6, .string a6_7] 24 (0, 0)) (by (with_reducible repeat (first | refine blk_drewN ?_ _ | refine blk_drew ?_ | refine blk_alloc ?_ _)); exact BK168.out) k_ hk⟩) _ (Nat.le_refl _)) (Below.refl _ _) (Nat.le_refl _) (by simp) ?_; (case hd => rfl); (case hg => rfl); (case hr => first | (go_simp; done) | (go_simp; rfl)); (case hp => exact (Reps.none _ _)); intro v183 w64 ho65 hb hg_ hnew_; clear hg_ hnew_; (first | rw [← Ny182.out] at ho65 | (simp only [Int.reduceToNat] at ho65; rw [← Ny182.out] at ho65)); have n0_ := Aside0.mk (Kd.N_elder' (by (with_reducible repeat (first | apply Kd.N_alloc | apply Kd.N_drewN | apply Kd.N_drew)); exact HO_15.out) (Kd.N_base ho65) hb); have n1_ := Aside0.mk (Kd.N_lower ho65 (below_size (by repeat (first | (with_reducible first | exact HB.out | apply below_alloc | apply pw_below_drewN | apply below_drew1 | refine below_set ?_ GE168.out) | exact HB.out)))); have n2_ := Aside0.mk (blk_below (g := gb168) (o := .cells #[.int .i64 a6_0, .int .i64 a6_1, .int .i64 a6_2, .int .i64 a6_3, .int .i64 a6_4, .int .i64 a6_5, .int .i64 a6_6, .string a6_7] 24 (0, 0)) (by (with_reducible repeat (first | refine blk_drewN ?_ _ | refine blk_drew ?_ | refine blk_alloc ?_ _)); exact BK168.out) hb); have n3_ := Aside0.mk (below_step (by repeat (first | (with_reducible first | exact HB.out | apply below_alloc | apply pw_below_drewN | apply below_drew1 | refine below_set ?_ GE168.out) | exact HB.out)) hb); clear HO_15; clear BK168; clear HB; have HO_15 := n0_; have HO184 := n1_; have BK168 := n2_; have HB := n3_; clear n0_ n1_ n2_ n3_; clear hb ho65) | ((with_reducible refine gate_builtin (b := .append) (xs := #[.tmp 59, .tmp 60]) rfl ?_); at_builtin; refine Kd.N_append_rows k32 (w0 := w) w.heap.size rfl (.tmp 59) (.tmp 60) 25 32 (.agg #[(.int .i64 0), (.int .i64 0), (.int .i64 0), (.int .i64 0), (.slice none 0 0)]) 56 rfl Try.underlying25 info32 rfl (by decide) (by omega) v183 y182 x15_1 _ _ _ (fun k_ => k_ ≠ gb168) (fun k_ => ((fun k_ => k_ ≠ gb168)) k_ ∧ some k_ ≠ (v183 : Value).ownBlock) rfl rfl ?aO ?aR (fun _ hk => hk) ?aF ?aB ?aS ?aL ?_; (case aR => exact (by skip; exact Kd.N_F (Kd.N_mono (ok' := (fun k_ => ((fun k_ => k_ ≠ gb168)) k_ ∧ some k_ ≠ (v183 : Value).ownBlock)) (HO_15.out) (fun k_ hk => ⟨hk.1, hk.2⟩)))); (case aB => exact (by repeat (first | (with_reducible first | exact HB.out | apply below_alloc | apply pw_below_drewN | apply below_drew1 | refine below_set ?_ GE168.out) | exact HB.out))); (case aF => exact (fun k_ hk => Kd.freshB (g := gb168) (o := .cells #[.int .i64 a6_0, .int .i64 a6_1, .int .i64 a6_2, .int .i64 a6_3, .int .i64 a6_4, .int .i64 a6_5, .int .i64 a6_6, .string a6_7] 24 (0, 0)) (by (with_reducible repeat (first | refine blk_drewN ?_ _ | refine blk_drew ?_ | refine blk_alloc ?_ _)); exact BK168.out) k_ hk)); (case aO => exact (by (with_reducible repeat (first | apply Kd.N_alloc | apply Kd.N_drewN | apply Kd.N_drew)); exact Kd.N_mono HO184.out (fun _ hk => hk.2))); (case aS => exact (below_size (by repeat (first | (with_reducible first | exact HB.out | apply below_alloc | apply pw_below_drewN | apply below_drew1 | refine below_set ?_ GE168.out) | exact HB.out)))); (case aL => have := LMc32.out; omega); intro v186 w66 ho hb hg hat; rw [← Ny185.out] at ho; have n0_ := Aside0.mk (Kd.N_afterv (ok := (fun k_ => k_ ≠ gb168)) (by (with_reducible repeat (first | apply Kd.N_alloc | apply Kd.N_drewN | apply Kd.N_drew)); exact HO_15.out) hg hat); have n1_ := Aside0.mk (blk_grown (g := gb168) (o := .cells #[.int .i64 a6_0, .int .i64 a6_1, .int .i64 a6_2, .int .i64 a6_3, .int .i64 a6_4, .int .i64 a6_5, .int .i64 a6_6, .string a6_7] 24 (0, 0)) (by (with_reducible repeat (first | refine blk_drewN ?_ _ | refine blk_drew ?_ | refine blk_alloc ?_ _)); exact BK168.out) hg (Kd.N_ne HO184.out BK168.out (by decide))); have n2_ := Aside0.mk (hb); have n3_ := Aside0.mk (ho); clear HO_15; clear BK168; clear HB; clear HO184; have HO_15 := n0_; have BK168 := n1_; have HB := n2_; have HO187 := n3_; clear n0_ n1_ n2_ n3_; clear ho hb hg hat; obtain ⟨Ao67, co67, eo67⟩ := Kd.N_slice HO187.out; subst eo67; have p190 : 0 ≤ (t181 : Int) := of_decide_eq_true (by first | (with_reducible assumption) | assumption); have q190 : t181 < (y185.length : Int) := of_decide_eq_true (by first | (with_reducible assumption) | assumption); obtain ⟨ad190, A190_4, c190_4, e190, hx190_0, hx190_1, hx190_2, hx190_3, hx190_4, hl190_4, hi190_4⟩ := at_T32 (Kd.N_reads' HO187.out).2.2 t181 p190 q190; cases e190; obtain ⟨ce190, hce190, hMe190, hcc190⟩ := Kd.N_get HO187.out z32 t181 p190 (by first | exact q190 | exact of_decide_eq_true (by first | (with_reducible assumption) | assumption) | (have e_ := (Kd.N_reads' HO187.out).1; omega)); obtain ⟨ua190_4, uc190_4, rfl, ul190_4, ge190_4⟩ := k32_openF hMe190; have hv190_4 := hcc190 4 _ rfl; rw [add_field _ _ 4 (by omega)] at hv190_4; replace hv190_4 := Option.some.inj (hv190_4.symm.trans hx190_4); injection hv190_4 with hva_ hvn_ hvc_; rw [hva_] at ge190_4; rw [hvc_] at ul190_4; have HL190_4 := Aside0.mk (show Kd.V (Kd.int .u8) 5 _ w.heap.size _ _ ((rd_T32 y185 t181).f4) from Kd.V_mk ul190_4 ge190_4); clear hva_ hvn_ hvc_ ge190_4 ul190_4; clear hcc190 hce190; have HR190_4 := Aside0.mk hi190_4; have HC190_4 := Aside0.mk hl190_4; clear hi190_4 hl190_4; replace p190 := eq_true p190; replace q190 := eq_true q190; have p192 : 0 ≤ (t181 : Int) := of_decide_eq_true (by first | (with_reducible assumption) | assumption); have q192 : t181 < (y185.length : Int) := of_decide_eq_true (by first | (with_reducible assumption) | assumption); obtain ⟨ad192, A192_4, c192_4, e192, hx192_0, hx192_1, hx192_2, hx192_3, hx192_4, hl192_4, hi192_4⟩ := at_T32 (Kd.N_reads' HO187.out).2.2 t181 p192 q192; obtain rfl : ad190 = ad192 := (by injection e192); obtain ⟨ce192, hce192, hMe192, hcc192⟩ := Kd.N_get HO187.out z32 t181 p192 (by first | exact q192 | exact of_decide_eq_true (by first | (with_reducible assumption) | assumption) | (have e_ := (Kd.N_reads' HO187.out).1; omega)); obtain ⟨ua192_4, uc192_4, rfl, ul192_4, ge192_4⟩ := k32_openF hMe192; have hv192_4 := hcc192 4 _ rfl; rw [add_field _ _ 4 (by omega)] at hv192_4; replace hv192_4 := Option.some.inj (hv192_4.symm.trans hx192_4); injection hv192_4 with hva_ hvn_ hvc_; rw [hva_] at ge192_4; rw [hvc_] at ul192_4; have HL192_4 := Aside0.mk (show Kd.V (Kd.int .u8) 5 _ w.heap.size _ _ ((rd_T32 y185 t181).f4) from Kd.V_mk ul192_4 ge192_4); clear hva_ hvn_ hvc_ ge192_4 ul192_4; clear hcc192 hce192; have HR192_4 := Aside0.mk hi192_4; have HC192_4 := Aside0.mk hl192_4; clear hi192_4 hl192_4; replace p192 := eq_true p192; replace q192 := eq_true q192; have ea_ := Option.some.inj (hx190_4.symm.trans hx192_4); injection ea_ with ea_ en_ ec_; subst ea_; subst ec_; clear en_; have p194 : 0 ≤ (t181 : Int) := of_decide_eq_true (by first | (with_reducible assumption) | assumption); have q194 : t181 < (y185.length : Int) := of_decide_eq_true (by first | (with_reducible assumption) | assumption); obtain ⟨ad194, A194_4, c194_4, e194, hx194_0, hx194_1, hx194_2, hx194_3, hx194_4, hl194_4, hi194_4⟩ := at_T32 (Kd.N_reads' HO187.out).2.2 t181 p194 q194; obtain rfl : ad190 = ad194 := (by injection e194); obtain ⟨ce194, hce194, hMe194, hcc194⟩ := Kd.N_get HO187.out z32 t181 p194 (by first | exact q194 | exact of_decide_eq_true (by first | (with_reducible assumption) | assumption) | (have e_ := (Kd.N_reads' HO187.out).1; omega)); obtain ⟨ua194_4, uc194_4, rfl, ul194_4, ge194_4⟩ := k32_openF hMe194; have hv194_4 := hcc194 4 _ rfl; rw [add_field _ _ 4 (by omega)] at hv194_4; replace hv194_4 := Option.some.inj (hv194_4.symm.trans hx194_4); injection hv194_4 with hva_ hvn_ hvc_; rw [hva_] at ge194_4; rw [hvc_] at ul194_4; have HL194_4 := Aside0.mk (show Kd.V (Kd.int .u8) 5 _ w.heap.size _ _ ((rd_T32 y185 t181).f4) from Kd.V_mk ul194_4 ge194_4); clear hva_ hvn_ hvc_ ge194_4 ul194_4; clear hcc194 hce194; have HR194_4 := Aside0.mk hi194_4; have HC194_4 := Aside0.mk hl194_4; clear hi194_4 hl194_4; replace p194 := eq_true p194; replace q194 := eq_true q194; have ea_ := Option.some.inj (hx190_4.symm.trans hx194_4); injection ea_ with ea_ en_ ec_; subst ea_; subst ec_; clear en_; have p63 : 0 ≤ (t181 : Int) := of_decide_eq_true (by first | (with_reducible assumption) | assumption); have q63 : (t181 : Int) < ((y185.length : Int) : Int) := of_decide_eq_true (by first | (with_reducible assumption) | assumption); obtain ⟨go63, co63, eo63, gb63, gl63, cl63, HG63⟩ := Kd.N_form HO187.out (by omega); (first | cases eo63 | (injection eo63 with ea_ en_ ec_; (first | subst ea_ | (injection ea_ with ea_; subst ea_)); subst ec_; clear en_)); have GB63 := Aside0.mk gb63; have GG63 := Aside0.mk HG63; clear gb63 gl63 HG63; (first | simp only [add_plain] at hx190_0 | skip); (first | simp only [add_plain] at hx190_1 | skip); (first | simp only [add_plain] at hx190_2 | skip); (first | simp only [add_plain] at hx190_3 | skip); (first | simp only [add_plain] at hx190_4 | skip); (first | simp only [add_plain] at hx192_0 | skip); (first | simp only [add_plain] at hx192_1 | skip); (first | simp only [add_plain] at hx192_2 | skip); (first | simp only [add_plain] at hx192_3 | skip); (first | simp only [add_plain] at hx192_4 | skip); (first | simp only [add_plain] at hx194_0 | skip); (first | simp only [add_plain] at hx194_1 | skip); (first | simp only [add_plain] at hx194_2 | skip); (first | simp only [add_plain] at hx194_3 | skip); (first | simp only [add_plain] at hx194_4 | skip); obtain ⟨ce63, hcl63, hM63, hcc63, hfr63⟩ := Kd.N_elem HO187.out z32 (t181 : Int) p63 q63; obtain ⟨ua63_4, uc63_4, rfl, ul63_4, ge63_4⟩ := k32_openF hM63; have hx63_0 : w66.cell? ⟨go63, (t181 : Int).toNat * 5, none⟩ = some (.int .i64 ((rd_T32 y185 t181).f0)) := hcc63 0 _ rfl; have hx63_1 : w66.cell? ⟨go63, (t181 : Int).toNat * 5 + 1, none⟩ = some (.int .i64 ((rd_T32 y185 t181).f1)) := hcc63 1 _ rfl; have hx63_2 : w66.cell? ⟨go63, (t181 : Int).toNat * 5 + 2, none⟩ = some (.int .i64 ((rd_T32 y185 t181).f2)) := hcc63 2 _ rfl; have hx63_3 : w66.cell? ⟨go63, (t181 : Int).toNat * 5 + 3, none⟩ = some (.int .i64 ((rd_T32 y185 t181).f3)) := hcc63 3 _ rfl; have hx63_4 : w66.cell? ⟨go63, (t181 : Int).toNat * 5 + 4, none⟩ = some (.slice ua63_4 ((rd_T32 y185 t181).f4).length uc63_4) := hcc63 4 _ rfl; have hf63_0 : w66.frozen? ⟨go63, (t181 : Int).toNat * 5, none⟩ = false := hfr63 0; have hf63_1 : w66.frozen? ⟨go63, (t181 : Int).toNat * 5 + 1, none⟩ = false := hfr63 1; have hf63_2 : w66.frozen? ⟨go63, (t181 : Int).toNat * 5 + 2, none⟩ = false := hfr63 2; have hf63_3 : w66.frozen? ⟨go63, (t181 : Int).toNat * 5 + 3, none⟩ = false := hfr63 3; have hf63_4 : w66.frozen? ⟨go63, (t181 : Int).toNat * 5 + 4, none⟩ = false := hfr63 4; clear hcl63 hcc63 hfr63 hM63; replace p63 := eq_true p63; replace q63 := eq_true q63; have HX68 := Aside0.mk (show Kd.N k32 32 w66 w.heap.size (fun k_ => k_ ≠ gb168) (.slice (some ⟨go63, 0, none⟩) y185.length co67) y185 from (by (with_reducible repeat (first | apply Kd.N_alloc | apply Kd.N_drewN | apply Kd.N_drew)); exact HO187.out)); obtain ⟨ce68, hcl68, hM68, hcc68, hfr68⟩ := Kd.N_elem HX68.out z32 (t181 : Int) (of_decide_eq_true (by first | (with_reducible assumption) | assumption)) (by have h_ : (t181 : Int) < ((y185.length : Int) : Int) := of_decide_eq_true (by first | (with_reducible assumption) | assumption); first | exact h_ | (have e_ := (Kd.N_reads' HO187.out).1; omega) | simpa using h_); obtain ⟨ua68_4, uc68_4, rfl, ul68_4, ge68_4⟩ := k32_openF hM68; have HP68 := Kd.N_seg HX68.out (t181 : Int) (of_decide_eq_true (by first | (with_reducible assumption) | assumption)) (by have h_ : (t181 : Int) < ((y185.length : Int) : Int) := of_decide_eq_true (by first | (with_reducible assumption) | assumption); first | exact h_ | (have e_ := (Kd.N_reads' HO187.out).1; omega) | simpa using h_) (seg := [.int .i64 a4]) (j := 1) hcl68 hcc68 (show 2 ≤ 5 from by decide) (x' := (⟨(rd_T32 y185 t181).f0, a4, (rd_T32 y185 t181).f2, (rd_T32 y185 t181).f3, (rd_T32 y185 t181).f4⟩ : S32)) (k32_mkF _ _ (⟨(rd_T32 y185 t181).f0, a4, (rd_T32 y185 t181).f2, (rd_T32 y185 t181).f3, (rd_T32 y185 t181).f4⟩ : S32) ul68_4 ge68_4) (fun _ hk => hk); have hx68_1 := hcc68 1 _ rfl; (try simp only [show (k32).sz = 5 from rfl, Nat.mul_one, Nat.add_zero] at hx68_1); have hf68_1 := hfr68 1; (try simp only [show (k32).sz = 5 from rfl, Nat.mul_one, Nat.add_zero] at hf68_1); clear hcl68 hcc68 hfr68 hM68) | ((with_reducible refine gate_store (t := 3) (p := 120) rfl ?_); refine store_event (t := 3) (p := 120) (v := ?vo_w69) (w1 := (w66.setCell ⟨go63, (t181 : Int).toNat * 5 + 1, none⟩ (.int .i64 a4))) ?hg ?ho ?hn ?hr ?_; (case ho => rfl); (case hg => rfl); (case hn => rfl); (case hr => first | (go_simp; done) | (go_simp; rfl)); intro w69 hw; have hg : w66.grownBy w69 (some go63) := (by rw [hw]; exact HP68.2); have hp_ : Kd.N k32 32 w69 w.heap.size (fun k_ => k_ ≠ gb168) (.slice (some ⟨go63, 0, none⟩) y185.length co67) y195 := (by rw [hw, Ny195.out]; exact HP68.1); clear HP68; have n0_ := Aside0.mk (Kd.N_afterv (v := (.slice (some ⟨go63, 0, none⟩) y185.length co67)) (v1 := (.slice (some ⟨go63, 0, none⟩) y185.length co67)) (ok := (fun k_ => k_ ≠ gb168)) (by (with_reducible repeat (first | apply Kd.N_alloc | apply Kd.N_drewN | apply Kd.N_drew)); exact HO_15.out) hg (.inl rfl)); have n1_ := Aside0.mk (blk_grown (g := gb168) (o := .cells #[.int .i64 a6_0, .int .i64 a6_1, .int .i64 a6_2, .int .i64 a6_3, .int .i64 a6_4, .int .i64 a6_5, .int .i64 a6_6, .string a6_7] 24 (0, 0)) (by (with_reducible repeat (first | refine blk_drewN ?_ _ | refine blk_drew ?_ | refine blk_alloc ?_ _)); exact BK168.out) hg (Kd.N_ne HO187.out BK168.out (by decide))); have n2_ := Aside0.mk (hp_); have n3_ := Aside0.mk (Kd.V_afterv (v := (.slice (some ⟨go63, 0, none⟩) y185.length co67)) (v1 := (.slice (some ⟨go63, 0, none⟩) y185.length co67)) (ok := (fun k_ => k_ ≠ gb168)) (by (with_reducible repeat (first | apply Kd.V_alloc | apply Kd.V_drewN | apply Kd.V_drew)); exact HL190_4.out) hg (.inl rfl)); have n4_ := Aside0.mk (Kd.V_afterv (v := (.slice (some ⟨go63, 0, none⟩) y185.length co67)) (v1 := (.slice (some ⟨go63, 0, none⟩) y185.length co67)) (ok := (fun k_ => k_ ≠ gb168)) (by (with_reducible repeat (first | apply Kd.V_alloc | apply Kd.V_drewN | apply Kd.V_drew)); exact HL192_4.out) hg (.inl rfl)); have n5_ := Aside0.mk (Kd.V_afterv (v := (.slice (some ⟨go63, 0, none⟩) y185.length co67)) (v1 := (.slice (some ⟨go63, 0, none⟩) y185.length co67)) (ok := (fun k_ => k_ ≠ gb168)) (by (with_reducible repeat (first | apply Kd.V_alloc | apply Kd.V_drewN | apply Kd.V_drew)); exact HL194_4.out) hg (.inl rfl)); have n6_ := Aside0.mk ((by rw [hw]; exact below_set (HB.out) GB63.out : Below w.heap.size w w69)); clear HO_15; clear BK168; clear HO187; clear HL190_4; clear HL192_4; clear HL194_4; clear HB; have HO_15 := n0_; have BK168 := n1_; have HO187 := n2_; have HL190_4 := n3_; have HL192_4 := n4_; have HL194_4 := n5_; have HB := n6_; clear n0_ n1_ n2_ n3_ n4_ n5_ n6_; clear hg hw hp_))
                                go_meet
                                case rel => exact ⟨_, (y195), (false), (by first | rfl | (simp; done) | (simp [*]; done)), H', ⟨by have := HK1.out; have := HJ8.out; first | omega | exact Nat.le_refl _⟩, ⟨by (with_reducible repeat (first | apply Kd.N_alloc | apply Kd.N_drewN | apply Kd.N_drew)); exact HO187.out⟩, ⟨by (with_reducible repeat (first | refine blk_drewN ?_ _ | refine blk_drew ?_ | refine blk_alloc ?_ _)); exact BK168.out⟩, ⟨by repeat (first | (with_reducible first | exact HB.out | apply below_alloc | apply pw_below_drewN | apply below_drew1 | refine below_set ?_ GE168.out) | exact HB.out)⟩⟩
                              · rw [if_neg c62] at H
                                have c62b0 : (((rd_T32 y185 t181).f0) == 2) = false := beq_eq_false_iff_ne.mpr c62
                                have c62b1 : (((rd_T32 y185 t181).f0) != 2) = true := bne_iff_ne.mpr c62
                                obtain ⟨y197, hy197⟩ : ∃ y_ : List (S32), y_ = (y185.set (t181 : Int).toNat (⟨(rd_T32 y185 t181).f0, a4, (rd_T32 y185 t181).f2, (rd_T32 y185 t181).f3, (rd_T32 y185 t181).f4⟩ : S32)) := ⟨_, rfl⟩
                                replace H : (broadsheetlaw27_FairTells.j2 kj8 a0 y197 (((rd_T32 y185 t181).f0) != 6) a6_0 a6_1 a6_2 a6_3 a6_4 a6_5 a6_6 a6_7) = some r := by first | (rw [hy197]; with_reducible exact H) | (have H2_ := (Option.bind_some _ _).symm.trans H; rw [hy197]; with_reducible exact H2_) | (have H2_ := (Option.bind_some _ _).symm.trans H; with_reducible exact H2_) | with_reducible exact H | (rw [hy197]; exact H) | exact H
                                have Ny197 := Aside0.mk hy197
                                clear hy197
                                have H' := Aside0.mk H
                                clear H
                                go_wp2_with (first | ((with_reducible refine gate_callee (f := 7) rfl ?_); refine goesL_ (some 58) rfl rfl Try.func7 (by kernel_rfl) rfl #[.int .i64 a2, .int .i64 0, .int .i64 (wrap64 ((x15_1.length : Int) - 1))] rfl (by (try simp only [List.map_toArray, List.map_cons, List.map_nil]); first | done | rfl | (simp only [List.length_drop, List.length_take]; rfl)) ?_; (with_reducible refine (broadsheetbook_Within.calls kj8 a2 0 (wrap64 ((x15_1.length : Int) - 1)) t181 _ A31.out).mono ?_); rintro e w' ⟨rfl, ⟨nd, rfl⟩⟩; refine ⟨_, rfl, ?_⟩; (try (rw [drewN_self wc]; generalize hq_ : World.drewN wc _ = wc; have n0_ : Aside0 (Kd.N k32 32 wc w.heap.size (fun k_ => k_ ≠ gb168) (.slice Ao29 x15_1.length co29) x15_1) := ⟨by rw [← hq_]; exact (by (with_reducible repeat (first | apply Kd.N_alloc | apply Kd.N_drewN | apply Kd.N_drew)); exact HO_15.out)⟩; have n1_ : Aside0 (wc.heap[gb168]? = some (.cells #[.int .i64 a6_0, .int .i64 a6_1, .int .i64 a6_2, .int .i64 a6_3, .int .i64 a6_4, .int .i64 a6_5, .int .i64 a6_6, .string a6_7] 24 (0, 0))) := ⟨by rw [← hq_]; exact (by (with_reducible repeat (first | refine blk_drewN ?_ _ | refine blk_drew ?_ | refine blk_alloc ?_ _)); exact BK168.out)⟩; have n2_ : Aside0 (Below w.heap.size w wc) := ⟨by rw [← hq_]; exact (by repeat (first | (with_reducible first | exact HB.out | apply below_alloc | apply pw_below_drewN | apply below_drew1 | refine below_set ?_ GE168.out) | exact HB.out))⟩; clear HO_15 BK168 HB hq_; have HO_15 := n0_; have BK168 := n1_; have HB := n2_; clear n0_ n1_ n2_))) | ((with_reducible refine gate_dst (N := 59) rfl ?_); refine Kd.N_lit k32 _ 32 ?hg (N' := 59) ?hd (xs := ([] : List (S32))) (inner := []) (ok := (fun k_ => some k_ ≠ (.slice Ao29 x15_1.length co29 : Value).ownBlock ∧ k_ ≠ gb168)) (okp := (fun k_ => some k_ ≠ (.slice Ao29 x15_1.length co29 : Value).ownBlock ∧ k_ ≠ gb168)) ?hr ?hp (fun _ hk => hk) ((show ∀ k_, wc.heap.size ≤ k_ → (fun k_ => some k_ ≠ (.slice Ao29 x15_1.length co29 : Value).ownBlock ∧ k_ ≠ gb168) k_ from fun k_ hk => ⟨Kd.fresh' (Kd.N_lt (by (with_reducible repeat (first | apply Kd.N_alloc | apply Kd.N_drewN | apply Kd.N_drew)); exact HO_15.out)) k_ hk, Kd.freshB (g := gb168) (o := .cells #[.int .i64 a6_0, .int .i64 a6_1, .int .i64 a6_2, .int .i64 a6_3, .int .i64 a6_4, .int .i64 a6_5, .int .i64 a6_6, .string a6_7] 24 (0, 0)) (by (with_reducible repeat (first | refine blk_drewN ?_ _ | refine blk_drew ?_ | refine blk_alloc ?_ _)); exact BK168.out) k_ hk⟩) _ (Nat.le_refl _)) (Below.refl _ _) (Nat.le_refl _) (by simp) ?_; (case hd => rfl); (case hg => rfl); (case hr => first | (go_simp; done) | (go_simp; rfl)); (case hp => exact (Reps.none _ _)); intro v183 w71 ho72 hb hg_ hnew_; clear hg_ hnew_; (first | rw [← Ny182.out] at ho72 | (simp only [Int.reduceToNat] at ho72; rw [← Ny182.out] at ho72)); have n0_ := Aside0.mk (Kd.N_elder' (by (with_reducible repeat (first | apply Kd.N_alloc | apply Kd.N_drewN | apply Kd.N_drew)); exact HO_15.out) (Kd.N_base ho72) hb); have n1_ := Aside0.mk (Kd.N_lower ho72 (below_size (by repeat (first | (with_reducible first | exact HB.out | apply below_alloc | apply pw_below_drewN | apply below_drew1 | refine below_set ?_ GE168.out) | exact HB.out)))); have n2_ := Aside0.mk (blk_below (g := gb168) (o := .cells #[.int .i64 a6_0, .int .i64 a6_1, .int .i64 a6_2, .int .i64 a6_3, .int .i64 a6_4, .int .i64 a6_5, .int .i64 a6_6, .string a6_7] 24 (0, 0)) (by (with_reducible repeat (first | refine blk_drewN ?_ _ | refine blk_drew ?_ | refine blk_alloc ?_ _)); exact BK168.out) hb); have n3_ := Aside0.mk (below_step (by repeat (first | (with_reducible first | exact HB.out | apply below_alloc | apply pw_below_drewN | apply below_drew1 | refine below_set ?_ GE168.out) | exact HB.out)) hb); clear HO_15; clear BK168; clear HB; have HO_15 := n0_; have HO184 := n1_; have BK168 := n2_; have HB := n3_; clear n0_ n1_ n2_ n3_; clear hb ho72) | ((with_reducible refine gate_builtin (b := .append) (xs := #[.tmp 59, .tmp 60]) rfl ?_); at_builtin; refine Kd.N_append_rows k32 (w0 := w) w.heap.size rfl (.tmp 59) (.tmp 60) 25 32 (.agg #[(.int .i64 0), (.int .i64 0), (.int .i64 0), (.int .i64 0), (.slice none 0 0)]) 56 rfl Try.underlying25 info32 rfl (by decide) (by omega) v183 y182 x15_1 _ _ _ (fun k_ => k_ ≠ gb168) (fun k_ => ((fun k_ => k_ ≠ gb168)) k_ ∧ some k_ ≠ (v183 : Value).ownBlock) rfl rfl ?aO ?aR (fun _ hk => hk) ?aF ?aB ?aS ?aL ?_; (case aR => exact (by skip; exact Kd.N_F (Kd.N_mono (ok' := (fun k_ => ((fun k_ => k_ ≠ gb168)) k_ ∧ some k_ ≠ (v183 : Value).ownBlock)) (HO_15.out) (fun k_ hk => ⟨hk.1, hk.2⟩)))); (case aB => exact (by repeat (first | (with_reducible first | exact HB.out | apply below_alloc | apply pw_below_drewN | apply below_drew1 | refine below_set ?_ GE168.out) | exact HB.out))); (case aF => exact (fun k_ hk => Kd.freshB (g := gb168) (o := .cells #[.int .i64 a6_0, .int .i64 a6_1, .int .i64 a6_2, .int .i64 a6_3, .int .i64 a6_4, .int .i64 a6_5, .int .i64 a6_6, .string a6_7] 24 (0, 0)) (by (with_reducible repeat (first | refine blk_drewN ?_ _ | refine blk_drew ?_ | refine blk_alloc ?_ _)); exact BK168.out) k_ hk)); (case aO => exact (by (with_reducible repeat (first | apply Kd.N_alloc | apply Kd.N_drewN | apply Kd.N_drew)); exact Kd.N_mono HO184.out (fun _ hk => hk.2))); (case aS => exact (below_size (by repeat (first | (with_reducible first | exact HB.out | apply below_alloc | apply pw_below_drewN | apply below_drew1 | refine below_set ?_ GE168.out) | exact HB.out)))); (case aL => have := LMc32.out; omega); intro v186 w73 ho hb hg hat; rw [← Ny185.out] at ho; have n0_ := Aside0.mk (Kd.N_afterv (ok := (fun k_ => k_ ≠ gb168)) (by (with_reducible repeat (first | apply Kd.N_alloc | apply Kd.N_drewN | apply Kd.N_drew)); exact HO_15.out) hg hat); have n1_ := Aside0.mk (blk_grown (g := gb168) (o := .cells #[.int .i64 a6_0, .int .i64 a6_1, .int .i64 a6_2, .int .i64 a6_3, .int .i64 a6_4, .int .i64 a6_5, .int .i64 a6_6, .string a6_7] 24 (0, 0)) (by (with_reducible repeat (first | refine blk_drewN ?_ _ | refine blk_drew ?_ | refine blk_alloc ?_ _)); exact BK168.out) hg (Kd.N_ne HO184.out BK168.out (by decide))); have n2_ := Aside0.mk (hb); have n3_ := Aside0.mk (ho); clear HO_15; clear BK168; clear HB; clear HO184; have HO_15 := n0_; have BK168 := n1_; have HB := n2_; have HO187 := n3_; clear n0_ n1_ n2_ n3_; clear ho hb hg hat; obtain ⟨Ao74, co74, eo74⟩ := Kd.N_slice HO187.out; subst eo74; have p190 : 0 ≤ (t181 : Int) := of_decide_eq_true (by first | (with_reducible assumption) | assumption); have q190 : t181 < (y185.length : Int) := of_decide_eq_true (by first | (with_reducible assumption) | assumption); obtain ⟨ad190, A190_4, c190_4, e190, hx190_0, hx190_1, hx190_2, hx190_3, hx190_4, hl190_4, hi190_4⟩ := at_T32 (Kd.N_reads' HO187.out).2.2 t181 p190 q190; cases e190; obtain ⟨ce190, hce190, hMe190, hcc190⟩ := Kd.N_get HO187.out z32 t181 p190 (by first | exact q190 | exact of_decide_eq_true (by first | (with_reducible assumption) | assumption) | (have e_ := (Kd.N_reads' HO187.out).1; omega)); obtain ⟨ua190_4, uc190_4, rfl, ul190_4, ge190_4⟩ := k32_openF hMe190; have hv190_4 := hcc190 4 _ rfl; rw [add_field _ _ 4 (by omega)] at hv190_4; replace hv190_4 := Option.some.inj (hv190_4.symm.trans hx190_4); injection hv190_4 with hva_ hvn_ hvc_; rw [hva_] at ge190_4; rw [hvc_] at ul190_4; have HL190_4 := Aside0.mk (show Kd.V (Kd.int .u8) 5 _ w.heap.size _ _ ((rd_T32 y185 t181).f4) from Kd.V_mk ul190_4 ge190_4); clear hva_ hvn_ hvc_ ge190_4 ul190_4; clear hcc190 hce190; have HR190_4 := Aside0.mk hi190_4; have HC190_4 := Aside0.mk hl190_4; clear hi190_4 hl190_4; replace p190 := eq_true p190; replace q190 := eq_true q190; have p192 : 0 ≤ (t181 : Int) := of_decide_eq_true (by first | (with_reducible assumption) | assumption); have q192 : t181 < (y185.length : Int) := of_decide_eq_true (by first | (with_reducible assumption) | assumption); obtain ⟨ad192, A192_4, c192_4, e192, hx192_0, hx192_1, hx192_2, hx192_3, hx192_4, hl192_4, hi192_4⟩ := at_T32 (Kd.N_reads' HO187.out).2.2 t181 p192 q192; obtain rfl : ad190 = ad192 := (by injection e192); obtain ⟨ce192, hce192, hMe192, hcc192⟩ := Kd.N_get HO187.out z32 t181 p192 (by first | exact q192 | exact of_decide_eq_true (by first | (with_reducible assumption) | assumption) | (have e_ := (Kd.N_reads' HO187.out).1; omega)); obtain ⟨ua192_4, uc192_4, rfl, ul192_4, ge192_4⟩ := k32_openF hMe192; have hv192_4 := hcc192 4 _ rfl; rw [add_field _ _ 4 (by omega)] at hv192_4; replace hv192_4 := Option.some.inj (hv192_4.symm.trans hx192_4); injection hv192_4 with hva_ hvn_ hvc_; rw [hva_] at ge192_4; rw [hvc_] at ul192_4; have HL192_4 := Aside0.mk (show Kd.V (Kd.int .u8) 5 _ w.heap.size _ _ ((rd_T32 y185 t181).f4) from Kd.V_mk ul192_4 ge192_4); clear hva_ hvn_ hvc_ ge192_4 ul192_4; clear hcc192 hce192; have HR192_4 := Aside0.mk hi192_4; have HC192_4 := Aside0.mk hl192_4; clear hi192_4 hl192_4; replace p192 := eq_true p192; replace q192 := eq_true q192; have ea_ := Option.some.inj (hx190_4.symm.trans hx192_4); injection ea_ with ea_ en_ ec_; subst ea_; subst ec_; clear en_; have p194 : 0 ≤ (t181 : Int) := of_decide_eq_true (by first | (with_reducible assumption) | assumption); have q194 : t181 < (y185.length : Int) := of_decide_eq_true (by first | (with_reducible assumption) | assumption); obtain ⟨ad194, A194_4, c194_4, e194, hx194_0, hx194_1, hx194_2, hx194_3, hx194_4, hl194_4, hi194_4⟩ := at_T32 (Kd.N_reads' HO187.out).2.2 t181 p194 q194; obtain rfl : ad190 = ad194 := (by injection e194); obtain ⟨ce194, hce194, hMe194, hcc194⟩ := Kd.N_get HO187.out z32 t181 p194 (by first | exact q194 | exact of_decide_eq_true (by first | (with_reducible assumption) | assumption) | (have e_ := (Kd.N_reads' HO187.out).1; omega)); obtain ⟨ua194_4, uc194_4, rfl, ul194_4, ge194_4⟩ := k32_openF hMe194; have hv194_4 := hcc194 4 _ rfl; rw [add_field _ _ 4 (by omega)] at hv194_4; replace hv194_4 := Option.some.inj (hv194_4.symm.trans hx194_4); injection hv194_4 with hva_ hvn_ hvc_; rw [hva_] at ge194_4; rw [hvc_] at ul194_4; have HL194_4 := Aside0.mk (show Kd.V (Kd.int .u8) 5 _ w.heap.size _ _ ((rd_T32 y185 t181).f4) from Kd.V_mk ul194_4 ge194_4); clear hva_ hvn_ hvc_ ge194_4 ul194_4; clear hcc194 hce194; have HR194_4 := Aside0.mk hi194_4; have HC194_4 := Aside0.mk hl194_4; clear hi194_4 hl194_4; replace p194 := eq_true p194; replace q194 := eq_true q194; have ea_ := Option.some.inj (hx190_4.symm.trans hx194_4); injection ea_ with ea_ en_ ec_; subst ea_; subst ec_; clear en_; have p196 : 0 ≤ (t181 : Int) := of_decide_eq_true (by first | (with_reducible assumption) | assumption); have q196 : t181 < (y185.length : Int) := of_decide_eq_true (by first | (with_reducible assumption) | assumption); obtain ⟨ad196, A196_4, c196_4, e196, hx196_0, hx196_1, hx196_2, hx196_3, hx196_4, hl196_4, hi196_4⟩ := at_T32 (Kd.N_reads' HO187.out).2.2 t181 p196 q196; obtain rfl : ad190 = ad196 := (by injection e196); obtain ⟨ce196, hce196, hMe196, hcc196⟩ := Kd.N_get HO187.out z32 t181 p196 (by first | exact q196 | exact of_decide_eq_true (by first | (with_reducible assumption) | assumption) | (have e_ := (Kd.N_reads' HO187.out).1; omega)); obtain ⟨ua196_4, uc196_4, rfl, ul196_4, ge196_4⟩ := k32_openF hMe196; have hv196_4 := hcc196 4 _ rfl; rw [add_field _ _ 4 (by omega)] at hv196_4; replace hv196_4 := Option.some.inj (hv196_4.symm.trans hx196_4); injection hv196_4 with hva_ hvn_ hvc_; rw [hva_] at ge196_4; rw [hvc_] at ul196_4; have HL196_4 := Aside0.mk (show Kd.V (Kd.int .u8) 5 _ w.heap.size _ _ ((rd_T32 y185 t181).f4) from Kd.V_mk ul196_4 ge196_4); clear hva_ hvn_ hvc_ ge196_4 ul196_4; clear hcc196 hce196; have HR196_4 := Aside0.mk hi196_4; have HC196_4 := Aside0.mk hl196_4; clear hi196_4 hl196_4; replace p196 := eq_true p196; replace q196 := eq_true q196; have ea_ := Option.some.inj (hx190_4.symm.trans hx196_4); injection ea_ with ea_ en_ ec_; subst ea_; subst ec_; clear en_; have p70 : 0 ≤ (t181 : Int) := of_decide_eq_true (by first | (with_reducible assumption) | assumption); have q70 : (t181 : Int) < ((y185.length : Int) : Int) := of_decide_eq_true (by first | (with_reducible assumption) | assumption); obtain ⟨go70, co70, eo70, gb70, gl70, cl70, HG70⟩ := Kd.N_form HO187.out (by omega); (first | cases eo70 | (injection eo70 with ea_ en_ ec_; (first | subst ea_ | (injection ea_ with ea_; subst ea_)); subst ec_; clear en_)); have GB70 := Aside0.mk gb70; have GG70 := Aside0.mk HG70; clear gb70 gl70 HG70; (first | simp only [add_plain] at hx190_0 | skip); (first | simp only [add_plain] at hx190_1 | skip); (first | simp only [add_plain] at hx190_2 | skip); (first | simp only [add_plain] at hx190_3 | skip); (first | simp only [add_plain] at hx190_4 | skip); (first | simp only [add_plain] at hx192_0 | skip); (first | simp only [add_plain] at hx192_1 | skip); (first | simp only [add_plain] at hx192_2 | skip); (first | simp only [add_plain] at hx192_3 | skip); (first | simp only [add_plain] at hx192_4 | skip); (first | simp only [add_plain] at hx194_0 | skip); (first | simp only [add_plain] at hx194_1 | skip); (first | simp only [add_plain] at hx194_2 | skip); (first | simp only [add_plain] at hx194_3 | skip); (first | simp only [add_plain] at hx194_4 | skip); (first | simp only [add_plain] at hx196_0 | skip); (first | simp only [add_plain] at hx196_1 | skip); (first | simp only [add_plain] at hx196_2 | skip); (first | simp only [add_plain] at hx196_3 | skip); (first | simp only [add_plain] at hx196_4 | skip); obtain ⟨ce70, hcl70, hM70, hcc70, hfr70⟩ := Kd.N_elem HO187.out z32 (t181 : Int) p70 q70; obtain ⟨ua70_4, uc70_4, rfl, ul70_4, ge70_4⟩ := k32_openF hM70; have hx70_0 : w73.cell? ⟨go70, (t181 : Int).toNat * 5, none⟩ = some (.int .i64 ((rd_T32 y185 t181).f0)) := hcc70 0 _ rfl; have hx70_1 : w73.cell? ⟨go70, (t181 : Int).toNat * 5 + 1, none⟩ = some (.int .i64 ((rd_T32 y185 t181).f1)) := hcc70 1 _ rfl; have hx70_2 : w73.cell? ⟨go70, (t181 : Int).toNat * 5 + 2, none⟩ = some (.int .i64 ((rd_T32 y185 t181).f2)) := hcc70 2 _ rfl; have hx70_3 : w73.cell? ⟨go70, (t181 : Int).toNat * 5 + 3, none⟩ = some (.int .i64 ((rd_T32 y185 t181).f3)) := hcc70 3 _ rfl; have hx70_4 : w73.cell? ⟨go70, (t181 : Int).toNat * 5 + 4, none⟩ = some (.slice ua70_4 ((rd_T32 y185 t181).f4).length uc70_4) := hcc70 4 _ rfl; have hf70_0 : w73.frozen? ⟨go70, (t181 : Int).toNat * 5, none⟩ = false := hfr70 0; have hf70_1 : w73.frozen? ⟨go70, (t181 : Int).toNat * 5 + 1, none⟩ = false := hfr70 1; have hf70_2 : w73.frozen? ⟨go70, (t181 : Int).toNat * 5 + 2, none⟩ = false := hfr70 2; have hf70_3 : w73.frozen? ⟨go70, (t181 : Int).toNat * 5 + 3, none⟩ = false := hfr70 3; have hf70_4 : w73.frozen? ⟨go70, (t181 : Int).toNat * 5 + 4, none⟩ = false := hfr70 4; clear hcl70 hcc70 hfr70 hM70; replace p70 := eq_true p70; replace q70 := eq_true q70; have HX75 := Aside0.mk (show Kd.N k32 32 w73 w.heap.size (fun k_ => k_ ≠ gb168) (.slice (some ⟨go70, 0, none⟩) y185.length co74) y185 from (by (with_reducible repeat (first | apply Kd.N_alloc | apply Kd.N_drewN | apply Kd.N_drew)); exact HO187.out)); obtain ⟨ce75, hcl75, hM75, hcc75, hfr75⟩ := Kd.N_elem HX75.out z32 (t181 : Int) (of_decide_eq_true (by first | (with_reducible assumption) | assumption)) (by have h_ : (t181 : Int) < ((y185.length : Int) : Int) := of_decide_eq_true (by first | (with_reducible assumption) | assumption); first | exact h_ | (have e_ := (Kd.N_reads' HO187.out).1; omega) | simpa using h_); obtain ⟨ua75_4, uc75_4, rfl, ul75_4, ge75_4⟩ := k32_openF hM75; have HP75 := Kd.N_seg HX75.out (t181 : Int) (of_decide_eq_true (by first | (with_reducible assumption) | assumption)) (by have h_ : (t181 : Int) < ((y185.length : Int) : Int) := of_decide_eq_true (by first | (with_reducible assumption) | assumption); first | exact h_ | (have e_ := (Kd.N_reads' HO187.out).1; omega) | simpa using h_) (seg := [.int .i64 a4]) (j := 1) hcl75 hcc75 (show 2 ≤ 5 from by decide) (x' := (⟨(rd_T32 y185 t181).f0, a4, (rd_T32 y185 t181).f2, (rd_T32 y185 t181).f3, (rd_T32 y185 t181).f4⟩ : S32)) (k32_mkF _ _ (⟨(rd_T32 y185 t181).f0, a4, (rd_T32 y185 t181).f2, (rd_T32 y185 t181).f3, (rd_T32 y185 t181).f4⟩ : S32) ul75_4 ge75_4) (fun _ hk => hk); have hx75_1 := hcc75 1 _ rfl; (try simp only [show (k32).sz = 5 from rfl, Nat.mul_one, Nat.add_zero] at hx75_1); have hf75_1 := hfr75 1; (try simp only [show (k32).sz = 5 from rfl, Nat.mul_one, Nat.add_zero] at hf75_1); clear hcl75 hcc75 hfr75 hM75) | ((with_reducible refine gate_store (t := 3) (p := 120) rfl ?_); refine store_event (t := 3) (p := 120) (v := ?vo_w76) (w1 := (w73.setCell ⟨go70, (t181 : Int).toNat * 5 + 1, none⟩ (.int .i64 a4))) ?hg ?ho ?hn ?hr ?_; (case ho => rfl); (case hg => rfl); (case hn => rfl); (case hr => first | (go_simp; done) | (go_simp; rfl)); intro w76 hw; have hg : w73.grownBy w76 (some go70) := (by rw [hw]; exact HP75.2); have hp_ : Kd.N k32 32 w76 w.heap.size (fun k_ => k_ ≠ gb168) (.slice (some ⟨go70, 0, none⟩) y185.length co74) y197 := (by rw [hw, Ny197.out]; exact HP75.1); clear HP75; have n0_ := Aside0.mk (Kd.N_afterv (v := (.slice (some ⟨go70, 0, none⟩) y185.length co74)) (v1 := (.slice (some ⟨go70, 0, none⟩) y185.length co74)) (ok := (fun k_ => k_ ≠ gb168)) (by (with_reducible repeat (first | apply Kd.N_alloc | apply Kd.N_drewN | apply Kd.N_drew)); exact HO_15.out) hg (.inl rfl)); have n1_ := Aside0.mk (blk_grown (g := gb168) (o := .cells #[.int .i64 a6_0, .int .i64 a6_1, .int .i64 a6_2, .int .i64 a6_3, .int .i64 a6_4, .int .i64 a6_5, .int .i64 a6_6, .string a6_7] 24 (0, 0)) (by (with_reducible repeat (first | refine blk_drewN ?_ _ | refine blk_drew ?_ | refine blk_alloc ?_ _)); exact BK168.out) hg (Kd.N_ne HO187.out BK168.out (by decide))); have n2_ := Aside0.mk (hp_); have n3_ := Aside0.mk (Kd.V_afterv (v := (.slice (some ⟨go70, 0, none⟩) y185.length co74)) (v1 := (.slice (some ⟨go70, 0, none⟩) y185.length co74)) (ok := (fun k_ => k_ ≠ gb168)) (by (with_reducible repeat (first | apply Kd.V_alloc | apply Kd.V_drewN | apply Kd.V_drew)); exact HL190_4.out) hg (.inl rfl)); have n4_ := Aside0.mk (Kd.V_afterv (v := (.slice (some ⟨go70, 0, none⟩) y185.length co74)) (v1 := (.slice (some ⟨go70, 0, none⟩) y185.length co74)) (ok := (fun k_ => k_ ≠ gb168)) (by (with_reducible repeat (first | apply Kd.V_alloc | apply Kd.V_drewN | apply Kd.V_drew)); exact HL192_4.out) hg (.inl rfl)); have n5_ := Aside0.mk (Kd.V_afterv (v := (.slice (some ⟨go70, 0, none⟩) y185.length co74)) (v1 := (.slice (some ⟨go70, 0, none⟩) y185.length co74)) (ok := (fun k_ => k_ ≠ gb168)) (by (with_reducible repeat (first | apply Kd.V_alloc | apply Kd.V_drewN | apply Kd.V_drew)); exact HL194_4.out) hg (.inl rfl)); have n6_ := Aside0.mk (Kd.V_afterv (v := (.slice (some ⟨go70, 0, none⟩) y185.length co74)) (v1 := (.slice (some ⟨go70, 0, none⟩) y185.length co74)) (ok := (fun k_ => k_ ≠ gb168)) (by (with_reducible repeat (first | apply Kd.V_alloc | apply Kd.V_drewN | apply Kd.V_drew)); exact HL196_4.out) hg (.inl rfl)); have n7_ := Aside0.mk ((by rw [hw]; exact below_set (HB.out) GB70.out : Below w.heap.size w w76)); clear HO_15; clear BK168; clear HO187; clear HL190_4; clear HL192_4; clear HL194_4; clear HL196_4; clear HB; have HO_15 := n0_; have BK168 := n1_; have HO187 := n2_; have HL190_4 := n3_; have HL192_4 := n4_; have HL194_4 := n5_; have HL196_4 := n6_; have HB := n7_; clear n0_ n1_ n2_ n3_ n4_ n5_ n6_ n7_; clear hg hw hp_))
                                go_meet
                                case rel => exact ⟨_, (y197), ((((rd_T32 y185 t181).f0) != 6)), (by first | rfl | (simp; done) | (simp [*]; done)), H', ⟨by have := HK1.out; have := HJ8.out; first | omega | exact Nat.le_refl _⟩, ⟨by (with_reducible repeat (first | apply Kd.N_alloc | apply Kd.N_drewN | apply Kd.N_drew)); exact HO187.out⟩, ⟨by (with_reducible repeat (first | refine blk_drewN ?_ _ | refine blk_drew ?_ | refine blk_alloc ?_ _)); exact BK168.out⟩, ⟨by repeat (first | (with_reducible first | exact HB.out | apply below_alloc | apply pw_below_drewN | apply below_drew1 | refine below_set ?_ GE168.out) | exact HB.out)⟩⟩
                        · rw [if_neg c45] at H
                          exact absurd H (by simp)
                      · rw [if_neg c44] at H
                        exact absurd H (by simp)
                    · rw [if_neg c43] at H
                      have c43b0 : (a5 == 2) = false := beq_eq_false_iff_ne.mpr c43
                      have c43b1 : (a5 != 2) = true := bne_iff_ne.mpr c43
                      by_cases c77 : a5 = 3
                      · rw [if_pos c77] at H
                        have c77b0 : (a5 == 3) = true := beq_iff_eq.mpr c77
                        have c77b1 : (a5 != 3) = false := bne_eq_false_iff_eq.mpr c77
                        clear c77
                        by_cases c78 : 0 ≤ t181
                        · rw [if_pos c78] at H
                          have c78b0 := eq_true c78
                          have c78b1 : decide (0 ≤ t181) = true := decide_eq_true c78
                          clear c78
                          by_cases c79 : t181 ≤ (y185.length : Int)
                          · rw [if_pos c79] at H
                            have c79b0 := eq_true c79
                            have c79b1 : decide (t181 ≤ (y185.length : Int)) = true := decide_eq_true c79
                            clear c79
                            obtain ⟨y198, hy198⟩ : ∃ y_ : List (S32), y_ = (y185.take (t181 : Int).toNat) := ⟨_, rfl⟩
                            replace H : (if 0 ≤ (wrap64 (t181 + 1)) then (if (wrap64 (t181 + 1)) ≤ (y185.length : Int) then (broadsheetlaw27_FairTells.j2 kj8 a0 (y185.eraseIdx (t181 : Int).toNat) false a6_0 a6_1 a6_2 a6_3 a6_4 a6_5 a6_6 a6_7) else (none)) else (none)) = some r := by first | (rw [hy198]; with_reducible exact H) | (have H2_ := (Option.bind_some _ _).symm.trans H; rw [hy198]; with_reducible exact H2_) | (have H2_ := (Option.bind_some _ _).symm.trans H; with_reducible exact H2_) | with_reducible exact H | (rw [hy198]; exact H) | exact H
                            have Ny198 := Aside0.mk hy198
                            clear hy198
                            obtain ⟨ji80, hji80⟩ : ∃ j_ : Int, (wrap64 (t181 + 1)) = j_ := ⟨_, rfl⟩
                            replace H : (if 0 ≤ (ji80) then (if (ji80) ≤ (y185.length : Int) then (broadsheetlaw27_FairTells.j2 kj8 a0 (y185.eraseIdx (t181 : Int).toNat) false a6_0 a6_1 a6_2 a6_3 a6_4 a6_5 a6_6 a6_7) else (none)) else (none)) = some r := by first | (rw [hji80] at H; exact H) | (simp only [hji80] at H ⊢; exact H)
                            (try rw [hji80] at A31)
                            have hji80w : (IntKind.i64.wrap (t181 + 1)) = ji80 := (i64_w _).trans hji80
                            by_cases c81 : 0 ≤ (ji80)
                            · rw [if_pos c81] at H
                              have c81b0 := eq_true c81
                              have c81b1 : decide (0 ≤ (ji80)) = true := decide_eq_true c81
                              clear c81
                              by_cases c82 : (ji80) ≤ (y185.length : Int)
                              · rw [if_pos c82] at H
                                have c82b0 := eq_true c82
                                have c82b1 : decide ((ji80) ≤ (y185.length : Int)) = true := decide_eq_true c82
                                clear c82
                                obtain ⟨y203, hy203⟩ : ∃ y_ : List (S32), y_ = (y185.drop ((ji80) : Int).toNat) := ⟨_, rfl⟩
                                replace H : (broadsheetlaw27_FairTells.j2 kj8 a0 (y185.eraseIdx (t181 : Int).toNat) false a6_0 a6_1 a6_2 a6_3 a6_4 a6_5 a6_6 a6_7) = some r := by first | (rw [hy203]; with_reducible exact H) | (have H2_ := (Option.bind_some _ _).symm.trans H; rw [hy203]; with_reducible exact H2_) | (have H2_ := (Option.bind_some _ _).symm.trans H; with_reducible exact H2_) | with_reducible exact H | (rw [hy203]; exact H) | exact H
                                have Ny203 := Aside0.mk hy203
                                clear hy203
                                obtain ⟨y208, hy208⟩ : ∃ y_ : List (S32), y_ = (y185.eraseIdx (t181 : Int).toNat) := ⟨_, rfl⟩
                                replace H : (broadsheetlaw27_FairTells.j2 kj8 a0 y208 false a6_0 a6_1 a6_2 a6_3 a6_4 a6_5 a6_6 a6_7) = some r := by first | (rw [hy208]; with_reducible exact H) | (have H2_ := (Option.bind_some _ _).symm.trans H; rw [hy208]; with_reducible exact H2_) | (have H2_ := (Option.bind_some _ _).symm.trans H; with_reducible exact H2_) | with_reducible exact H | (rw [hy208]; exact H) | exact H
                                have Ny208 := Aside0.mk hy208
                                clear hy208
                                have H' := Aside0.mk H
                                clear H
                                try go_wp2_with (first | ((with_reducible refine gate_callee (f := 7) rfl ?_); refine goesL_ (some 58) rfl rfl Try.func7 (by kernel_rfl) rfl #[.int .i64 a2, .int .i64 0, .int .i64 (wrap64 ((x15_1.length : Int) - 1))] rfl (by (try simp only [List.map_toArray, List.map_cons, List.map_nil]); first | done | rfl | (simp only [List.length_drop, List.length_take]; rfl)) ?_; (with_reducible refine (broadsheetbook_Within.calls kj8 a2 0 (wrap64 ((x15_1.length : Int) - 1)) t181 _ A31.out).mono ?_); rintro e w' ⟨rfl, ⟨nd, rfl⟩⟩; refine ⟨_, rfl, ?_⟩) | ((with_reducible refine gate_dst (N := 59) rfl ?_); refine Kd.N_lit k32 _ 32 ?hg (N' := 59) ?hd (xs := ([] : List (S32))) (inner := []) (ok := (fun k_ => some k_ ≠ (.slice Ao29 x15_1.length co29 : Value).ownBlock ∧ k_ ≠ gb168)) (okp := (fun k_ => some k_ ≠ (.slice Ao29 x15_1.length co29 : Value).ownBlock ∧ k_ ≠ gb168)) ?hr ?hp (fun _ hk => hk) ((show ∀ k_, wc.heap.size ≤ k_ → (fun k_ => some k_ ≠ (.slice Ao29 x15_1.length co29 : Value).ownBlock ∧ k_ ≠ gb168) k_ from fun k_ hk => ⟨Kd.fresh' (Kd.N_lt (by (with_reducible repeat (first | apply Kd.N_alloc | apply Kd.N_drewN | apply Kd.N_drew)); exact HO_15.out)) k_ hk, Kd.freshB (g := gb168) (o := .cells #[.int .i64 a6_0, .int .i64 a6_1, .int .i64 a6_2, .int .i64 a6_3, .int .i64 a6_4, .int .i64 a6_5, .int .i64 a6_6, .string a6_7] 24 (0, 0)) (by (with_reducible repeat (first | refine blk_drewN ?_ _ | refine blk_drew ?_ | refine blk_alloc ?_ _)); exact BK168.out) k_ hk⟩) _ (Nat.le_refl _)) (Below.refl _ _) (Nat.le_refl _) (by simp) ?_; (case hd => rfl); (case hg => rfl); (case hr => first | (go_simp; done) | (go_simp; rfl)); (case hp => exact (Reps.none _ _)); intro v183 w83 ho84 hb hg_ hnew_; clear hg_ hnew_; (first | rw [← Ny182.out] at ho84 | (simp only [Int.reduceToNat] at ho84; rw [← Ny182.out] at ho84)); have n0_ := Aside0.mk (Kd.N_elder' (by (with_reducible repeat (first | apply Kd.N_alloc | apply Kd.N_drewN | apply Kd.N_drew)); exact HO_15.out) (Kd.N_base ho84) hb); have n1_ := Aside0.mk (Kd.N_lower ho84 (below_size (by repeat (first | (with_reducible first | exact HB.out | apply below_alloc | apply pw_below_drewN | apply below_drew1 | refine below_set ?_ GE168.out) | exact HB.out)))); have n2_ := Aside0.mk (blk_below (g := gb168) (o := .cells #[.int .i64 a6_0, .int .i64 a6_1, .int .i64 a6_2, .int .i64 a6_3, .int .i64 a6_4, .int .i64 a6_5, .int .i64 a6_6, .string a6_7] 24 (0, 0)) (by (with_reducible repeat (first | refine blk_drewN ?_ _ | refine blk_drew ?_ | refine blk_alloc ?_ _)); exact BK168.out) hb); have n3_ := Aside0.mk (below_step (by repeat (first | (with_reducible first | exact HB.out | apply below_alloc | apply pw_below_drewN | apply below_drew1 | refine below_set ?_ GE168.out) | exact HB.out)) hb); clear HO_15; clear BK168; clear HB; have HO_15 := n0_; have HO184 := n1_; have BK168 := n2_; have HB := n3_; clear n0_ n1_ n2_ n3_; clear hb ho84) | ((with_reducible refine gate_builtin (b := .append) (xs := #[.tmp 59, .tmp 60]) rfl ?_); at_builtin; refine Kd.N_append_rows k32 (w0 := w) w.heap.size rfl (.tmp 59) (.tmp 60) 25 32 (.agg #[(.int .i64 0), (.int .i64 0), (.int .i64 0), (.int .i64 0), (.slice none 0 0)]) 56 rfl Try.underlying25 info32 rfl (by decide) (by omega) v183 y182 x15_1 _ _ _ (fun k_ => k_ ≠ gb168) (fun k_ => ((fun k_ => k_ ≠ gb168)) k_ ∧ some k_ ≠ (v183 : Value).ownBlock) rfl rfl ?aO ?aR (fun _ hk => hk) ?aF ?aB ?aS ?aL ?_; (case aR => exact (by skip; exact Kd.N_F (Kd.N_mono (ok' := (fun k_ => ((fun k_ => k_ ≠ gb168)) k_ ∧ some k_ ≠ (v183 : Value).ownBlock)) (HO_15.out) (fun k_ hk => ⟨hk.1, hk.2⟩)))); (case aB => exact (by repeat (first | (with_reducible first | exact HB.out | apply below_alloc | apply pw_below_drewN | apply below_drew1 | refine below_set ?_ GE168.out) | exact HB.out))); (case aF => exact (fun k_ hk => Kd.freshB (g := gb168) (o := .cells #[.int .i64 a6_0, .int .i64 a6_1, .int .i64 a6_2, .int .i64 a6_3, .int .i64 a6_4, .int .i64 a6_5, .int .i64 a6_6, .string a6_7] 24 (0, 0)) (by (with_reducible repeat (first | refine blk_drewN ?_ _ | refine blk_drew ?_ | refine blk_alloc ?_ _)); exact BK168.out) k_ hk)); (case aO => exact (by (with_reducible repeat (first | apply Kd.N_alloc | apply Kd.N_drewN | apply Kd.N_drew)); exact Kd.N_mono HO184.out (fun _ hk => hk.2))); (case aS => exact (below_size (by repeat (first | (with_reducible first | exact HB.out | apply below_alloc | apply pw_below_drewN | apply below_drew1 | refine below_set ?_ GE168.out) | exact HB.out)))); (case aL => have := LMc32.out; omega); intro v186 w85 ho hb hg hat; rw [← Ny185.out] at ho; have n0_ := Aside0.mk (Kd.N_afterv (ok := (fun k_ => k_ ≠ gb168)) (by (with_reducible repeat (first | apply Kd.N_alloc | apply Kd.N_drewN | apply Kd.N_drew)); exact HO_15.out) hg hat); have n1_ := Aside0.mk (blk_grown (g := gb168) (o := .cells #[.int .i64 a6_0, .int .i64 a6_1, .int .i64 a6_2, .int .i64 a6_3, .int .i64 a6_4, .int .i64 a6_5, .int .i64 a6_6, .string a6_7] 24 (0, 0)) (by (with_reducible repeat (first | refine blk_drewN ?_ _ | refine blk_drew ?_ | refine blk_alloc ?_ _)); exact BK168.out) hg (Kd.N_ne HO184.out BK168.out (by decide))); have n2_ := Aside0.mk (hb); have n3_ := Aside0.mk (ho); clear HO_15; clear BK168; clear HB; clear HO184; have HO_15 := n0_; have BK168 := n1_; have HB := n2_; have HO187 := n3_; clear n0_ n1_ n2_ n3_; clear ho hb hg hat))
                                have n0_ := Aside0.mk (Kd.N_drew HO_15.out)
                                have n1_ := Aside0.mk (Kd.N_drew HO187.out)
                                have n2_ := Aside0.mk (blk_drew BK168.out)
                                have n3_ := Aside0.mk (below_drew1 HB.out)
                                clear HO_15
                                clear HO187
                                clear BK168
                                clear HB
                                have HO_15 := n0_
                                have HO187 := n1_
                                have BK168 := n2_
                                have HB := n3_
                                clear n0_ n1_ n2_ n3_
                                obtain ⟨Ao88, co88, eo88⟩ := Kd.N_slice HO187.out
                                (first | subst eo88 | (injection eo88 with f1_ f2_ f3_; have f4_ := f1_.symm; have f5_ := f3_.symm; clear f1_ f2_ f3_; subst f4_; subst f5_))
                                have q87 : (t181 : Int) ≤ ((y185.length : Int) : Int) := of_decide_eq_true (by first | (with_reducible assumption) | assumption)
                                obtain ⟨i087, hi087, _, hsz87, _⟩ := info_parts info32
                                have hroom87 : y185.length ≤ co88 := (Kd.N_reads' HO187.out).2.1
                                have hC87 : Kd.F k32 _ _ Ao88 y185.length y185 := (Kd.V_at (base := w.heap.size) (Kd.N_V HO187.out)).2.2
                                have hcut87 := cut_to (P := Try.prog) 25 32 .i64 Try.underlying25 hi087 Ao88 y185.length co88 t181 (of_decide_eq_true (by first | (with_reducible assumption) | assumption)) q87 hroom87
                                have hr87 := Kd.F_take (m := (t181 : Int).toNat) hC87 (by omega)
                                have hy87 : y198.length = (t181 : Int).toNat := (by rw [Ny198.out, List.length_take]; omega)
                                rw [← Ny198.out] at hr87
                                rw [← hy87] at hcut87
                                have HO202 := Aside0.mk (show Kd.V k32 32 _ w.heap.size _ (.slice Ao88 y198.length co88) y198 from Kd.V_mk (by omega) hr87)
                                have HC202 := Aside0.mk (show y198.length ≤ co88 from by omega)
                                clear hr87 hC87 hroom87 hi087 hsz87
                                have KY87 := Aside0.mk hy87
                                clear hy87
                                replace q87 := eq_true q87
                                have q89 : ((ji80) : Int) ≤ ((y185.length : Int) : Int) := of_decide_eq_true (by first | (with_reducible assumption) | assumption)
                                obtain ⟨i089, hi089, _, hsz89, _⟩ := info_parts info32
                                have hroom89 : y185.length ≤ co88 := (Kd.N_reads' HO187.out).2.1
                                have hC89 : Kd.F k32 _ _ Ao88 y185.length y185 := (Kd.V_at (base := w.heap.size) (Kd.N_V HO187.out)).2.2
                                have q089 : (0 : Int) ≤ ((ji80) : Int) := of_decide_eq_true (by first | (with_reducible assumption) | assumption)
                                have hcut89 := cut_from (P := Try.prog) 25 32 .i64 Try.underlying25 hi089 5 hsz89 Ao88 y185.length co88 (ji80) q089 q89
                                have hr89 := Kd.F_cut (m := ((ji80) : Int).toNat) (c := co88) hC89 (by omega) hroom89
                                obtain ⟨A89, hA89⟩ : ∃ A1, A1 = (if co88 = ((ji80) : Int).toNat then Ao88 else (Ao88 : Option Addr).map (·.add (((ji80) : Int).toNat * 5))) := ⟨_, rfl⟩
                                obtain ⟨c89, hc89⟩ : ∃ c1, c1 = co88 - ((ji80) : Int).toNat := ⟨_, rfl⟩
                                have hy89 : y203.length = y185.length - ((ji80) : Int).toNat := (by rw [Ny203.out, List.length_drop] <;> omega)
                                rw [show (y185).drop ((ji80) : Int).toNat = y203 from Ny203.out.symm] at hr89
                                replace hr89 : Kd.F k32 _ _ A89 y203.length y203 := (by rw [hA89]; exact hr89)
                                rw [← hy89, ← hA89, ← hc89] at hcut89
                                have HO207 := Aside0.mk (show Kd.V k32 32 _ w.heap.size _ (.slice A89 y203.length c89) y203 from Kd.V_mk (by rw [hy89, hc89]; exact Nat.sub_le_sub_right hroom89 _) hr89)
                                have HC207 := Aside0.mk (show y203.length ≤ c89 from by rw [hy89, hc89]; exact Nat.sub_le_sub_right hroom89 _)
                                clear hr89 hC89 hroom89 hi089 hsz89 hc89
                                have KY89 := Aside0.mk hy89
                                have KA89 := Aside0.mk hA89
                                clear hy89 hA89
                                replace q89 := eq_true q89
                                obtain ⟨go91, co91, eo91, gb91, gl91, cl91, HG91⟩ := Kd.N_form HO187.out (by have hj_ : 0 ≤ (t181 : Int) := of_decide_eq_true (by first | (with_reducible assumption) | assumption); have hl_ : (ji80 : Int) ≤ (y185.length : Int) := of_decide_eq_true (by first | (with_reducible assumption) | assumption); have hh_ : (t181 : Int) ≤ (y185.length : Int) := of_decide_eq_true (by first | (with_reducible assumption) | assumption); rw [← hji80] at hl_; unfold wrap64 at hl_; omega)
                                (first | cases eo91 | (injection eo91 with ea_ en_ ec_; (first | subst ea_ | (injection ea_ with ea_; subst ea_)); subst ec_; clear en_))
                                have GB91 := Aside0.mk gb91
                                have GG91 := Aside0.mk HG91
                                clear gb91 gl91 HG91
                                refine start_ (n := 9) (S := fun w' => True) (ds := []) #[false, false, false, false, false, false, false, false, false] (by kernel_rfl) rfl rfl trivial (fun hHeld => ?_); refine with_tabW broadsheetlaw27_FairTells.tab21 broadsheetlaw27_FairTells.bits21 (fun HT_ HW_ => ?_)
                                generalize w85.drew = w86 at HO_15 HO187 BK168 HB GG91 HO202 HO207 hHeld ⊢
                                refine pure_ (i := 0) (N := some 123) (v := ?_) (a' := ?_) #[true, false, false, false, false, false, false, false, false] rfl rfl (any_of HT_.out (by kernel_rfl)) (fun _ _ _ h => h) (Or.inl ⟨by rfl, ?_⟩) ?_ ?_
                                rotate_left
                                · intro w'
                                  go_simp
                                  with_reducible rfl
                                rotate_left
                                · simp only [Act.put, List.setIfInBounds_toArray, List.set_cons_zero, List.set_cons_succ, i64_w, i32_w]
                                  rfl
                                refine pure_ (i := 1) (N := some 124) (v := ?_) (a' := ?_) #[true, true, false, false, false, false, false, false, false] rfl rfl (any_of HT_.out (by kernel_rfl)) (fun _ _ _ h => h) (Or.inl ⟨by rfl, ?_⟩) ?_ ?_
                                rotate_left
                                · intro w'
                                  go_simp
                                  with_reducible rfl
                                rotate_left
                                · simp only [Act.put, List.setIfInBounds_toArray, List.set_cons_zero, List.set_cons_succ, i64_w, i32_w]
                                  rfl
                                refine pure_ (i := 2) (N := some 125) (v := ?_) (a' := ?_) #[true, true, true, false, false, false, false, false, false] rfl rfl (any_of HT_.out (by kernel_rfl)) (fun _ _ _ h => h) (Or.inl ⟨by rfl, ?_⟩) ?_ ?_
                                rotate_left
                                · intro w'
                                  go_simp
                                  with_reducible rfl
                                rotate_left
                                · simp only [Act.put, List.setIfInBounds_toArray, List.set_cons_zero, List.set_cons_succ, i64_w, i32_w]
                                  rfl
                                refine pure_ (i := 3) (N := some 126) (v := ?_) (a' := ?_) #[true, true, true, true, false, false, false, false, false] rfl rfl (any_of HT_.out (by kernel_rfl)) (fun _ _ _ h => h) (Or.inl ⟨by rfl, ?_⟩) ?_ ?_
                                rotate_left
                                · intro w'
                                  go_simp
                                  with_reducible rfl
                                rotate_left
                                · simp only [Act.put, List.setIfInBounds_toArray, List.set_cons_zero, List.set_cons_succ, i64_w, i32_w]
                                  rfl
                                refine pure_ (i := 4) (N := some 127) (v := ?_) (a' := ?_) #[true, true, true, true, true, false, false, false, false] rfl rfl (any_of HT_.out (by kernel_rfl)) (fun _ _ _ h => h) (Or.inl ⟨by rfl, ?_⟩) ?_ ?_
                                rotate_left
                                · intro w'
                                  go_simp
                                  with_reducible rfl
                                rotate_left
                                · simp only [Act.put, List.setIfInBounds_toArray, List.set_cons_zero, List.set_cons_succ, i64_w, i32_w]
                                  rfl
                                refine pure_ (i := 5) (N := some 128) (v := ?_) (a' := ?_) #[true, true, true, true, true, true, false, false, false] rfl rfl (any_of HT_.out (by kernel_rfl)) (fun _ _ _ h => h) (Or.inl ⟨by rfl, ?_⟩) ?_ ?_
                                rotate_left
                                · intro w'
                                  go_simp
                                  with_reducible rfl
                                rotate_left
                                · simp only [Act.put, List.setIfInBounds_toArray, List.set_cons_zero, List.set_cons_succ, i64_w, i32_w]
                                  rfl
                                refine pure_ (i := 6) (N := some 129) (v := ?_) (a' := ?_) #[true, true, true, true, true, true, true, false, false] rfl rfl (any_of HT_.out (by kernel_rfl)) (fun _ _ _ h => h) (Or.inl ⟨by rfl, ?_⟩) ?_ ?_
                                rotate_left
                                · intro w'
                                  go_simp
                                  with_reducible rfl
                                rotate_left
                                · simp only [Act.put, List.setIfInBounds_toArray, List.set_cons_zero, List.set_cons_succ, i64_w, i32_w]
                                  rfl
                                refine one_ (i := 7) (N := some 130) #[true, true, true, true, true, true, true, true, false] rfl rfl (one_of HT_.out (by kernel_rfl)) (by decide) (fun K hK => ?_)
                                have hj_ : 0 ≤ (t181 : Int) := of_decide_eq_true (by first | (with_reducible assumption) | assumption)
                                have hl_ : (ji80 : Int) ≤ (y185.length : Int) := of_decide_eq_true (by first | (with_reducible assumption) | assumption)
                                have hh_ : (t181 : Int) ≤ (y185.length : Int) := of_decide_eq_true (by first | (with_reducible assumption) | assumption)
                                have hb_ := (Kd.N_reads' HO187.out).2.2.2.1
                                have h0_ : (0 : Int) ≤ (ji80 : Int) := of_decide_eq_true (by first | (with_reducible assumption) | assumption)
                                have hy1_ := KY87.out
                                have hk_ : (ji80 : Int).toNat = y198.length + 1 := (by have hw_ : (ji80 : Int) = t181 + 1 := (by have h00_ := h0_; rw [← hji80] at h00_ ⊢; unfold wrap64 at h00_ ⊢; omega); rw [hw_]; omega)
                                refine Kd.N_delete_step k32 (w0 := w) w.heap.size (by rfl) (.tmp 125) (.tmp 129) 25 32 rfl Try.underlying25 (by kernel_rfl) (g := go91) (n := y185.length) (c := co88) (k := y198.length) rfl rfl ?hA ?hm (by (with_reducible repeat (first | apply Kd.N_alloc | apply Kd.N_drewN | apply Kd.N_drew)); exact HO187.out) ?hk (by repeat (first | (with_reducible first | exact HB.out | apply below_alloc | apply pw_below_drewN | apply below_drew1 | refine below_set ?_ GE168.out) | exact HB.out)) (below_size (by repeat (first | (with_reducible first | exact HB.out | apply below_alloc | apply pw_below_drewN | apply below_drew1 | refine below_set ?_ GE168.out) | exact HB.out))) ?_
                                (case hA => have ha_ := KA89.out; rw [hk_] at ha_; exact ha_)
                                (case hm => have ha_ := KY89.out; omega)
                                (case hk => omega)
                                intro w90 ho hb hg
                                clear hj_ hl_ hh_ hb_ hk_ h0_
                                rw [hy1_, ← Ny208.out] at ho
                                clear hy1_
                                have hn_ : y185.length - 1 = y208.length := (by have := (Kd.N_reads' ho).1; omega)
                                rw [hn_] at ho ⊢
                                clear hn_
                                have n0_ := Aside0.mk (Kd.N_afterv (v := (.slice (some ⟨go91, 0, none⟩) y185.length co88)) (v1 := .slice (some ⟨go91, 0, none⟩) y208.length co88) (ok := (fun k_ => k_ ≠ gb168)) (by (with_reducible repeat (first | apply Kd.N_alloc | apply Kd.N_drewN | apply Kd.N_drew)); exact HO_15.out) hg (.inl rfl))
                                have n1_ := Aside0.mk (blk_grown (g := gb168) (o := .cells #[.int .i64 a6_0, .int .i64 a6_1, .int .i64 a6_2, .int .i64 a6_3, .int .i64 a6_4, .int .i64 a6_5, .int .i64 a6_6, .string a6_7] 24 (0, 0)) (by (with_reducible repeat (first | refine blk_drewN ?_ _ | refine blk_drew ?_ | refine blk_alloc ?_ _)); exact BK168.out) hg (Kd.N_ne HO187.out BK168.out (by decide)))
                                have n2_ := Aside0.mk (ho)
                                have n3_ := Aside0.mk (hb)
                                clear HO_15
                                clear BK168
                                clear HO187
                                clear HB
                                have HO_15 := n0_
                                have BK168 := n1_
                                have HO187 := n2_
                                have HB := n3_
                                clear n0_ n1_ n2_ n3_
                                clear ho hb hg
                                refine hK.out _ _ trivial (fun hHeld => ?_)
                                clear hK K
                                refine norm_ (a' := ?_) ?_ ?_
                                rotate_left
                                · show Act.put _ (some 130) _ = _
                                  simp only [Act.put, List.setIfInBounds_toArray, List.set_cons_zero, List.set_cons_succ, i64_w, i32_w]
                                  rfl
                                refine pure_ (i := 8) (N := some 15) (v := ?_) (a' := ?_) #[true, true, true, true, true, true, true, true, true] rfl rfl (any_of HT_.out (by kernel_rfl)) (fun _ _ _ h => h) (Or.inl ⟨by rfl, ?_⟩) ?_ ?_
                                rotate_left
                                · intro w'
                                  go_simp
                                  with_reducible rfl
                                rotate_left
                                · simp only [Act.put, List.setIfInBounds_toArray, List.set_cons_zero, List.set_cons_succ, i64_w, i32_w]
                                  rfl
                                refine done_ (done_of HT_.out (by kernel_rfl)) ?_
                                try go_wp2
                                go_meet
                                case rel => exact ⟨_, (y208), (false), (by first | rfl | (simp; done) | (simp [*]; done)), H', ⟨by have := HK1.out; have := HJ8.out; first | omega | exact Nat.le_refl _⟩, ⟨by (with_reducible repeat (first | apply Kd.N_alloc | apply Kd.N_drewN | apply Kd.N_drew)); exact HO187.out⟩, ⟨by (with_reducible repeat (first | refine blk_drewN ?_ _ | refine blk_drew ?_ | refine blk_alloc ?_ _)); exact BK168.out⟩, ⟨by repeat (first | (with_reducible first | exact HB.out | apply below_alloc | apply pw_below_drewN | apply below_drew1 | refine below_set ?_ GE168.out) | exact HB.out)⟩⟩
                              · rw [if_neg c82] at H
                                exact absurd H (by simp)
                            · rw [if_neg c81] at H
                              exact absurd H (by simp)
                          · rw [if_neg c79] at H
                            exact absurd H (by simp)
                        · rw [if_neg c78] at H
                          exact absurd H (by simp)
                      · rw [if_neg c77] at H
                        have c77b0 : (a5 == 3) = false := beq_eq_false_iff_ne.mpr c77
                        have c77b1 : (a5 != 3) = true := bne_iff_ne.mpr c77
                        have H' := Aside0.mk H
                        clear H
                        go_wp2_with (first | ((with_reducible refine gate_callee (f := 7) rfl ?_); refine goesL_ (some 58) rfl rfl Try.func7 (by kernel_rfl) rfl #[.int .i64 a2, .int .i64 0, .int .i64 (wrap64 ((x15_1.length : Int) - 1))] rfl (by (try simp only [List.map_toArray, List.map_cons, List.map_nil]); first | done | rfl | (simp only [List.length_drop, List.length_take]; rfl)) ?_; (with_reducible refine (broadsheetbook_Within.calls kj8 a2 0 (wrap64 ((x15_1.length : Int) - 1)) t181 _ A31.out).mono ?_); rintro e w' ⟨rfl, ⟨nd, rfl⟩⟩; refine ⟨_, rfl, ?_⟩) | ((with_reducible refine gate_dst (N := 59) rfl ?_); refine Kd.N_lit k32 _ 32 ?hg (N' := 59) ?hd (xs := ([] : List (S32))) (inner := []) (ok := (fun k_ => some k_ ≠ (.slice Ao29 x15_1.length co29 : Value).ownBlock ∧ k_ ≠ gb168)) (okp := (fun k_ => some k_ ≠ (.slice Ao29 x15_1.length co29 : Value).ownBlock ∧ k_ ≠ gb168)) ?hr ?hp (fun _ hk => hk) ((show ∀ k_, wc.heap.size ≤ k_ → (fun k_ => some k_ ≠ (.slice Ao29 x15_1.length co29 : Value).ownBlock ∧ k_ ≠ gb168) k_ from fun k_ hk => ⟨Kd.fresh' (Kd.N_lt (by (with_reducible repeat (first | apply Kd.N_alloc | apply Kd.N_drewN | apply Kd.N_drew)); exact HO_15.out)) k_ hk, Kd.freshB (g := gb168) (o := .cells #[.int .i64 a6_0, .int .i64 a6_1, .int .i64 a6_2, .int .i64 a6_3, .int .i64 a6_4, .int .i64 a6_5, .int .i64 a6_6, .string a6_7] 24 (0, 0)) (by (with_reducible repeat (first | refine blk_drewN ?_ _ | refine blk_drew ?_ | refine blk_alloc ?_ _)); exact BK168.out) k_ hk⟩) _ (Nat.le_refl _)) (Below.refl _ _) (Nat.le_refl _) (by simp) ?_; (case hd => rfl); (case hg => rfl); (case hr => first | (go_simp; done) | (go_simp; rfl)); (case hp => exact (Reps.none _ _)); intro v183 w92 ho93 hb hg_ hnew_; clear hg_ hnew_; (first | rw [← Ny182.out] at ho93 | (simp only [Int.reduceToNat] at ho93; rw [← Ny182.out] at ho93)); have n0_ := Aside0.mk (Kd.N_elder' (by (with_reducible repeat (first | apply Kd.N_alloc | apply Kd.N_drewN | apply Kd.N_drew)); exact HO_15.out) (Kd.N_base ho93) hb); have n1_ := Aside0.mk (Kd.N_lower ho93 (below_size (by repeat (first | (with_reducible first | exact HB.out | apply below_alloc | apply pw_below_drewN | apply below_drew1 | refine below_set ?_ GE168.out) | exact HB.out)))); have n2_ := Aside0.mk (blk_below (g := gb168) (o := .cells #[.int .i64 a6_0, .int .i64 a6_1, .int .i64 a6_2, .int .i64 a6_3, .int .i64 a6_4, .int .i64 a6_5, .int .i64 a6_6, .string a6_7] 24 (0, 0)) (by (with_reducible repeat (first | refine blk_drewN ?_ _ | refine blk_drew ?_ | refine blk_alloc ?_ _)); exact BK168.out) hb); have n3_ := Aside0.mk (below_step (by repeat (first | (with_reducible first | exact HB.out | apply below_alloc | apply pw_below_drewN | apply below_drew1 | refine below_set ?_ GE168.out) | exact HB.out)) hb); clear HO_15; clear BK168; clear HB; have HO_15 := n0_; have HO184 := n1_; have BK168 := n2_; have HB := n3_; clear n0_ n1_ n2_ n3_; clear hb ho93) | ((with_reducible refine gate_builtin (b := .append) (xs := #[.tmp 59, .tmp 60]) rfl ?_); at_builtin; refine Kd.N_append_rows k32 (w0 := w) w.heap.size rfl (.tmp 59) (.tmp 60) 25 32 (.agg #[(.int .i64 0), (.int .i64 0), (.int .i64 0), (.int .i64 0), (.slice none 0 0)]) 56 rfl Try.underlying25 info32 rfl (by decide) (by omega) v183 y182 x15_1 _ _ _ (fun k_ => k_ ≠ gb168) (fun k_ => ((fun k_ => k_ ≠ gb168)) k_ ∧ some k_ ≠ (v183 : Value).ownBlock) rfl rfl ?aO ?aR (fun _ hk => hk) ?aF ?aB ?aS ?aL ?_; (case aR => exact (by skip; exact Kd.N_F (Kd.N_mono (ok' := (fun k_ => ((fun k_ => k_ ≠ gb168)) k_ ∧ some k_ ≠ (v183 : Value).ownBlock)) (HO_15.out) (fun k_ hk => ⟨hk.1, hk.2⟩)))); (case aB => exact (by repeat (first | (with_reducible first | exact HB.out | apply below_alloc | apply pw_below_drewN | apply below_drew1 | refine below_set ?_ GE168.out) | exact HB.out))); (case aF => exact (fun k_ hk => Kd.freshB (g := gb168) (o := .cells #[.int .i64 a6_0, .int .i64 a6_1, .int .i64 a6_2, .int .i64 a6_3, .int .i64 a6_4, .int .i64 a6_5, .int .i64 a6_6, .string a6_7] 24 (0, 0)) (by (with_reducible repeat (first | refine blk_drewN ?_ _ | refine blk_drew ?_ | refine blk_alloc ?_ _)); exact BK168.out) k_ hk)); (case aO => exact (by (with_reducible repeat (first | apply Kd.N_alloc | apply Kd.N_drewN | apply Kd.N_drew)); exact Kd.N_mono HO184.out (fun _ hk => hk.2))); (case aS => exact (below_size (by repeat (first | (with_reducible first | exact HB.out | apply below_alloc | apply pw_below_drewN | apply below_drew1 | refine below_set ?_ GE168.out) | exact HB.out)))); (case aL => have := LMc32.out; omega); intro v186 w94 ho hb hg hat; rw [← Ny185.out] at ho; have n0_ := Aside0.mk (Kd.N_afterv (ok := (fun k_ => k_ ≠ gb168)) (by (with_reducible repeat (first | apply Kd.N_alloc | apply Kd.N_drewN | apply Kd.N_drew)); exact HO_15.out) hg hat); have n1_ := Aside0.mk (blk_grown (g := gb168) (o := .cells #[.int .i64 a6_0, .int .i64 a6_1, .int .i64 a6_2, .int .i64 a6_3, .int .i64 a6_4, .int .i64 a6_5, .int .i64 a6_6, .string a6_7] 24 (0, 0)) (by (with_reducible repeat (first | refine blk_drewN ?_ _ | refine blk_drew ?_ | refine blk_alloc ?_ _)); exact BK168.out) hg (Kd.N_ne HO184.out BK168.out (by decide))); have n2_ := Aside0.mk (hb); have n3_ := Aside0.mk (ho); clear HO_15; clear BK168; clear HB; clear HO184; have HO_15 := n0_; have BK168 := n1_; have HB := n2_; have HO187 := n3_; clear n0_ n1_ n2_ n3_; clear ho hb hg hat))
                        go_meet
                        case rel => exact ⟨_, (y185), (decide ((x15_1.length : Int) > 0)), (by first | rfl | (simp; done) | (simp [*]; done)), H', ⟨by have := HK1.out; have := HJ8.out; first | omega | exact Nat.le_refl _⟩, ⟨by (with_reducible repeat (first | apply Kd.N_alloc | apply Kd.N_drewN | apply Kd.N_drew)); exact HO187.out⟩, ⟨by (with_reducible repeat (first | refine blk_drewN ?_ _ | refine blk_drew ?_ | refine blk_alloc ?_ _)); exact BK168.out⟩, ⟨by repeat (first | (with_reducible first | exact HB.out | apply below_alloc | apply pw_below_drewN | apply below_drew1 | refine below_set ?_ GE168.out) | exact HB.out)⟩⟩
                · rw [if_neg c32] at H
                  exact absurd H (by simp)
              · rw [if_neg c30] at H
                have c30b0 : decide (0 < (x15_1.length : Int)) = false := decide_eq_false c30
                have c30b1 : decide (0 < x15_1.length) = false := decide_eq_false (by omega)
                clear c30
                have gc30 : ¬ (0 < x15_1.length) := of_decide_eq_false c30b1
                (first | rw [c30b0] | (simp only [i64_w, i32_w]; rw [c30b0]) | skip)
                have H' := Aside0.mk H
                clear H
                go_wp2
                go_meet
                case rel => exact ⟨_, (x15_1), (decide ((x15_1.length : Int) > 0)), (by first | rfl | (simp; done) | (simp [*]; done)), H', ⟨by have := HK1.out; have := HJ8.out; first | omega | exact Nat.le_refl _⟩, ⟨by (with_reducible repeat (first | apply Kd.N_alloc | apply Kd.N_drewN | apply Kd.N_drew)); exact HO_15.out⟩, ⟨by (with_reducible repeat (first | refine blk_drewN ?_ _ | refine blk_drew ?_ | refine blk_alloc ?_ _)); exact BK168.out⟩, ⟨by repeat (first | (with_reducible first | exact HB.out | apply below_alloc | apply pw_below_drewN | apply below_drew1 | refine below_set ?_ GE168.out) | exact HB.out)⟩⟩
            case rest =>
              clear HC28
              try clear c1
              try clear p1
              try clear q1
              try clear hx1
              try clear p2
              try clear c3
              try clear p3
              try clear q3
              try clear hx3
              try clear c4
              try clear p4
              try clear q4
              try clear hx4
              try clear c5
              try clear p5
              try clear q5
              try clear hx5
              try clear c6
              try clear p6
              try clear q6
              try clear hx6
              try clear c7
              try clear p7
              try clear q7
              try clear hx7
              try clear hf7
              try clear c8
              try clear q8
              try clear c10
              try clear c10b0
              try clear c11
              try clear c12
              try clear c12b0
              try clear c13
              try clear c13b0
              try clear p16
              try clear q16
              try clear hx16
              try clear c17
              try clear p17
              try clear q17
              try clear hx17
              try clear c18
              try clear p18
              try clear q18
              try clear hx18
              try clear c19
              try clear p19
              try clear q19
              try clear hx19
              try clear c30
              try clear c30b0
              try clear c30b1
              try clear c32
              try clear c33
              try clear c33b0
              try clear c33b1
              try clear c34
              try clear c34b0
              try clear c35
              try clear c35b0
              try clear c36
              try clear p36
              try clear q36
              try clear hx36
              try clear hf36
              try clear c41
              try clear hx41
              try clear hf41
              try clear c43
              try clear c43b0
              try clear c43b1
              try clear c44
              try clear c44b0
              try clear c45
              try clear c45b0
              try clear c46
              try clear c46b0
              try clear c46b1
              try clear c47
              try clear p47
              try clear q47
              try clear hx47
              try clear hf47
              try clear c52
              try clear hx52
              try clear hf52
              try clear c54
              try clear c54b0
              try clear c54b1
              try clear c55
              try clear p55
              try clear q55
              try clear hx55
              try clear hf55
              try clear c60
              try clear hx60
              try clear hf60
              try clear c62
              try clear c62b0
              try clear c62b1
              try clear c63
              try clear p63
              try clear q63
              try clear hx63
              try clear hf63
              try clear p64
              try clear c68
              try clear hx68
              try clear hf68
              try clear c70
              try clear p70
              try clear q70
              try clear hx70
              try clear hf70
              try clear c75
              try clear hx75
              try clear hf75
              try clear c77
              try clear c77b0
              try clear c77b1
              try clear c78
              try clear c78b0
              try clear c78b1
              try clear c79
              try clear c79b0
              try clear c79b1
              try clear c81
              try clear c81b0
              try clear c81b1
              try clear c82
              try clear c82b0
              try clear c82b1
              try clear q87
              try clear c89
              try clear q89
              try clear hx169_0
              try clear hx173_0
              try clear hx188_0
              try clear hx188_1
              try clear hx188_2
              try clear hx188_3
              try clear hx188_4
              try clear hx190_0
              try clear hx190_1
              try clear hx190_2
              try clear hx190_3
              try clear hx190_4
              try clear hx192_0
              try clear hx192_1
              try clear hx192_2
              try clear hx192_3
              try clear hx192_4
              try clear hx194_0
              try clear hx194_1
              try clear hx194_2
              try clear hx194_3
              try clear hx194_4
              try clear hx196_0
              try clear hx196_1
              try clear hx196_2
              try clear hx196_3
              try clear hx196_4
              try clear hx36_0
              try clear hx36_1
              try clear hx36_2
              try clear hx36_3
              try clear hx36_4
              try clear hx41_0
              try clear hx47_0
              try clear hx47_1
              try clear hx47_2
              try clear hx47_3
              try clear hx47_4
              try clear hx52_1
              try clear hx55_0
              try clear hx55_1
              try clear hx55_2
              try clear hx55_3
              try clear hx55_4
              try clear hx60_1
              try clear hx63_0
              try clear hx63_1
              try clear hx63_2
              try clear hx63_3
              try clear hx63_4
              try clear hx68_1
              try clear hx70_0
              try clear hx70_1
              try clear hx70_2
              try clear hx70_3
              try clear hx70_4
              try clear hx75_1
              try clear p169
              try clear p173
              try clear p188
              try clear p190
              try clear p192
              try clear p194
              try clear p196
              try clear p2
              try clear p36
              try clear p47
              try clear p55
              try clear p63
              try clear p70
              try clear q089
              try clear q169
              try clear q173
              try clear q188
              try clear q190
              try clear q192
              try clear q194
              try clear q196
              try clear q36
              try clear q47
              try clear q55
              try clear q63
              try clear q70
              try clear q87
              try clear q89
              obtain ⟨kq, x15_27, x18_27, rfl, HA, HJ27, HO_15, BK168, HB⟩ := hcut
              cases kq with
              | zero => exact absurd HA.out (by simp [broadsheetlaw27_FairTells.j2])
              | succ kj27 =>
                have H := HA.out
                clear HA
                simp only [broadsheetlaw27_FairTells.j2] at H
                have HC95 := Aside0.mk H
                clear H
                go_upto_region 24 with (fail)
                go_cut [138] (fun v138 wc => ∃ (kq : Nat) (x138_94 : Bool), v138 = .bool x138_94 ∧ Aside0 (broadsheetlaw27_FairTells.j3 kq a0 x15_27 x18_27 0 x138_94 a6_0 a6_1 a6_2 a6_3 a6_4 a6_5 a6_6 a6_7 = some r) ∧ Aside0 (kq ≤ kj27) ∧ Aside0 (Kd.N k32 32 wc w.heap.size (fun k_ => k_ ≠ gb168) u15 x15_27) ∧ Aside0 (wc.heap[gb168]? = some (.cells #[.int .i64 a6_0, .int .i64 a6_1, .int .i64 a6_2, .int .i64 a6_3, .int .i64 a6_4, .int .i64 a6_5, .int .i64 a6_6, .string a6_7] 24 (0, 0))) ∧ Aside0 (Below w.heap.size w wc))
                case first =>
                  have H := HC95.out
                  clear HC95
                  by_cases c96 : a6_4 ≥ 0
                  · rw [if_pos c96] at H
                    have c96b0 : decide (0 ≤ a6_4) = true := decide_eq_true c96
                    clear c96
                    (first | rw [c96b0] | (simp only [i64_w, i32_w]; rw [c96b0]) | skip)
                    have H' := Aside0.mk H
                    clear H
                    have hcz97_0 : wc.cell? ⟨gb168, 0, none⟩ = some (.int .i64 a6_0) := (blk_cell BK168.out 0).trans rfl
                    have hcz97_1 : wc.cell? ⟨gb168, 1, none⟩ = some (.int .i64 a6_1) := (blk_cell BK168.out 1).trans rfl
                    have hcz97_2 : wc.cell? ⟨gb168, 2, none⟩ = some (.int .i64 a6_2) := (blk_cell BK168.out 2).trans rfl
                    have hcz97_3 : wc.cell? ⟨gb168, 3, none⟩ = some (.int .i64 a6_3) := (blk_cell BK168.out 3).trans rfl
                    have hcz97_4 : wc.cell? ⟨gb168, 4, none⟩ = some (.int .i64 a6_4) := (blk_cell BK168.out 4).trans rfl
                    have hcz97_5 : wc.cell? ⟨gb168, 5, none⟩ = some (.int .i64 a6_5) := (blk_cell BK168.out 5).trans rfl
                    have hcz97_6 : wc.cell? ⟨gb168, 6, none⟩ = some (.int .i64 a6_6) := (blk_cell BK168.out 6).trans rfl
                    have hcz97_7 : wc.cell? ⟨gb168, 7, none⟩ = some (.string a6_7) := (blk_cell BK168.out 7).trans rfl
                    have hfz97_0 := blk_frozen BK168.out 0
                    have hfz97_1 := blk_frozen BK168.out 1
                    have hfz97_2 := blk_frozen BK168.out 2
                    have hfz97_3 := blk_frozen BK168.out 3
                    have hfz97_4 := blk_frozen BK168.out 4
                    have hfz97_5 := blk_frozen BK168.out 5
                    have hfz97_6 := blk_frozen BK168.out 6
                    have hfz97_7 := blk_frozen BK168.out 7
                    go_wp2
                    go_meet
                    case rel => exact ⟨_, (decide (a6_4 ≤ 1000)), (by first | rfl | (simp; done) | (simp [*]; done)), H', ⟨by have := HK1.out; have := HJ8.out; have := HJ27.out; first | omega | exact Nat.le_refl _⟩, ⟨by (with_reducible repeat (first | apply Kd.N_alloc | apply Kd.N_drewN | apply Kd.N_drew)); exact HO_15.out⟩, ⟨by (with_reducible repeat (first | refine blk_drewN ?_ _ | refine blk_drew ?_ | refine blk_alloc ?_ _)); exact BK168.out⟩, ⟨by repeat (first | (with_reducible first | exact HB.out | apply below_alloc | apply pw_below_drewN | apply below_drew1 | refine below_set ?_ GE168.out) | exact HB.out)⟩⟩
                  · rw [if_neg c96] at H
                    have c96b0 : decide (0 ≤ a6_4) = false := decide_eq_false c96
                    clear c96
                    (first | rw [c96b0] | (simp only [i64_w, i32_w]; rw [c96b0]) | skip)
                    have H' := Aside0.mk H
                    clear H
                    have hcz98_0 : wc.cell? ⟨gb168, 0, none⟩ = some (.int .i64 a6_0) := (blk_cell BK168.out 0).trans rfl
                    have hcz98_1 : wc.cell? ⟨gb168, 1, none⟩ = some (.int .i64 a6_1) := (blk_cell BK168.out 1).trans rfl
                    have hcz98_2 : wc.cell? ⟨gb168, 2, none⟩ = some (.int .i64 a6_2) := (blk_cell BK168.out 2).trans rfl
                    have hcz98_3 : wc.cell? ⟨gb168, 3, none⟩ = some (.int .i64 a6_3) := (blk_cell BK168.out 3).trans rfl
                    have hcz98_4 : wc.cell? ⟨gb168, 4, none⟩ = some (.int .i64 a6_4) := (blk_cell BK168.out 4).trans rfl
                    have hcz98_5 : wc.cell? ⟨gb168, 5, none⟩ = some (.int .i64 a6_5) := (blk_cell BK168.out 5).trans rfl
                    have hcz98_6 : wc.cell? ⟨gb168, 6, none⟩ = some (.int .i64 a6_6) := (blk_cell BK168.out 6).trans rfl
                    have hcz98_7 : wc.cell? ⟨gb168, 7, none⟩ = some (.string a6_7) := (blk_cell BK168.out 7).trans rfl
                    have hfz98_0 := blk_frozen BK168.out 0
                    have hfz98_1 := blk_frozen BK168.out 1
                    have hfz98_2 := blk_frozen BK168.out 2
                    have hfz98_3 := blk_frozen BK168.out 3
                    have hfz98_4 := blk_frozen BK168.out 4
                    have hfz98_5 := blk_frozen BK168.out 5
                    have hfz98_6 := blk_frozen BK168.out 6
                    have hfz98_7 := blk_frozen BK168.out 7
                    go_wp2
                    go_meet
                    case rel => exact ⟨_, (false), (by first | rfl | (simp; done) | (simp [*]; done)), H', ⟨by have := HK1.out; have := HJ8.out; have := HJ27.out; first | omega | exact Nat.le_refl _⟩, ⟨by (with_reducible repeat (first | apply Kd.N_alloc | apply Kd.N_drewN | apply Kd.N_drew)); exact HO_15.out⟩, ⟨by (with_reducible repeat (first | refine blk_drewN ?_ _ | refine blk_drew ?_ | refine blk_alloc ?_ _)); exact BK168.out⟩, ⟨by repeat (first | (with_reducible first | exact HB.out | apply below_alloc | apply pw_below_drewN | apply below_drew1 | refine below_set ?_ GE168.out) | exact HB.out)⟩⟩
                case rest =>
                  clear HC95
                  try clear c1
                  try clear p1
                  try clear q1
                  try clear hx1
                  try clear p2
                  try clear c3
                  try clear p3
                  try clear q3
                  try clear hx3
                  try clear c4
                  try clear p4
                  try clear q4
                  try clear hx4
                  try clear c5
                  try clear p5
                  try clear q5
                  try clear hx5
                  try clear c6
                  try clear p6
                  try clear q6
                  try clear hx6
                  try clear c7
                  try clear p7
                  try clear q7
                  try clear hx7
                  try clear hf7
                  try clear c8
                  try clear q8
                  try clear c9
                  try clear c10
                  try clear c10b0
                  try clear c11
                  try clear c12
                  try clear c12b0
                  try clear c13
                  try clear c13b0
                  try clear p16
                  try clear q16
                  try clear hx16
                  try clear c17
                  try clear p17
                  try clear q17
                  try clear hx17
                  try clear c18
                  try clear p18
                  try clear q18
                  try clear hx18
                  try clear c19
                  try clear p19
                  try clear q19
                  try clear hx19
                  try clear c30
                  try clear c30b0
                  try clear c30b1
                  try clear c32
                  try clear c33
                  try clear c33b0
                  try clear c33b1
                  try clear c34
                  try clear c34b0
                  try clear c35
                  try clear c35b0
                  try clear c36
                  try clear p36
                  try clear q36
                  try clear hx36
                  try clear hf36
                  try clear c41
                  try clear hx41
                  try clear hf41
                  try clear c43
                  try clear c43b0
                  try clear c43b1
                  try clear c44
                  try clear c44b0
                  try clear c45
                  try clear c45b0
                  try clear c46
                  try clear c46b0
                  try clear c46b1
                  try clear c47
                  try clear p47
                  try clear q47
                  try clear hx47
                  try clear hf47
                  try clear c52
                  try clear hx52
                  try clear hf52
                  try clear c54
                  try clear c54b0
                  try clear c54b1
                  try clear c55
                  try clear p55
                  try clear q55
                  try clear hx55
                  try clear hf55
                  try clear c60
                  try clear hx60
                  try clear hf60
                  try clear c62
                  try clear c62b0
                  try clear c62b1
                  try clear c63
                  try clear p63
                  try clear q63
                  try clear hx63
                  try clear hf63
                  try clear p64
                  try clear c68
                  try clear hx68
                  try clear hf68
                  try clear c70
                  try clear p70
                  try clear q70
                  try clear hx70
                  try clear hf70
                  try clear c75
                  try clear hx75
                  try clear hf75
                  try clear c77
                  try clear c77b0
                  try clear c77b1
                  try clear c78
                  try clear c78b0
                  try clear c78b1
                  try clear c79
                  try clear c79b0
                  try clear c79b1
                  try clear c81
                  try clear c81b0
                  try clear c81b1
                  try clear c82
                  try clear c82b0
                  try clear c82b1
                  try clear q87
                  try clear c89
                  try clear q89
                  try clear c96
                  try clear c96b0
                  try clear hcz97_0
                  try clear hcz97_1
                  try clear hcz97_2
                  try clear hcz97_3
                  try clear hcz97_4
                  try clear hcz97_5
                  try clear hcz97_6
                  try clear hcz97_7
                  try clear hcz98_0
                  try clear hcz98_1
                  try clear hcz98_2
                  try clear hcz98_3
                  try clear hcz98_4
                  try clear hcz98_5
                  try clear hcz98_6
                  try clear hcz98_7
                  try clear hfz97_0
                  try clear hfz97_1
                  try clear hfz97_2
                  try clear hfz97_3
                  try clear hfz97_4
                  try clear hfz97_5
                  try clear hfz97_6
                  try clear hfz97_7
                  try clear hfz98_0
                  try clear hfz98_1
                  try clear hfz98_2
                  try clear hfz98_3
                  try clear hfz98_4
                  try clear hfz98_5
                  try clear hfz98_6
                  try clear hfz98_7
                  try clear hx169_0
                  try clear hx173_0
                  try clear hx188_0
                  try clear hx188_1
                  try clear hx188_2
                  try clear hx188_3
                  try clear hx188_4
                  try clear hx190_0
                  try clear hx190_1
                  try clear hx190_2
                  try clear hx190_3
                  try clear hx190_4
                  try clear hx192_0
                  try clear hx192_1
                  try clear hx192_2
                  try clear hx192_3
                  try clear hx192_4
                  try clear hx194_0
                  try clear hx194_1
                  try clear hx194_2
                  try clear hx194_3
                  try clear hx194_4
                  try clear hx196_0
                  try clear hx196_1
                  try clear hx196_2
                  try clear hx196_3
                  try clear hx196_4
                  try clear hx36_0
                  try clear hx36_1
                  try clear hx36_2
                  try clear hx36_3
                  try clear hx36_4
                  try clear hx41_0
                  try clear hx47_0
                  try clear hx47_1
                  try clear hx47_2
                  try clear hx47_3
                  try clear hx47_4
                  try clear hx52_1
                  try clear hx55_0
                  try clear hx55_1
                  try clear hx55_2
                  try clear hx55_3
                  try clear hx55_4
                  try clear hx60_1
                  try clear hx63_0
                  try clear hx63_1
                  try clear hx63_2
                  try clear hx63_3
                  try clear hx63_4
                  try clear hx68_1
                  try clear hx70_0
                  try clear hx70_1
                  try clear hx70_2
                  try clear hx70_3
                  try clear hx70_4
                  try clear hx75_1
                  try clear p1
                  try clear p16
                  try clear p169
                  try clear p17
                  try clear p173
                  try clear p18
                  try clear p188
                  try clear p19
                  try clear p190
                  try clear p192
                  try clear p194
                  try clear p196
                  try clear p2
                  try clear p3
                  try clear p36
                  try clear p4
                  try clear p47
                  try clear p5
                  try clear p55
                  try clear p6
                  try clear p63
                  try clear p64
                  try clear p7
                  try clear p70
                  try clear q089
                  try clear q1
                  try clear q16
                  try clear q169
                  try clear q17
                  try clear q173
                  try clear q18
                  try clear q188
                  try clear q19
                  try clear q190
                  try clear q192
                  try clear q194
                  try clear q196
                  try clear q3
                  try clear q36
                  try clear q4
                  try clear q47
                  try clear q5
                  try clear q55
                  try clear q6
                  try clear q63
                  try clear q7
                  try clear q70
                  try clear q8
                  try clear q87
                  try clear q89
                  obtain ⟨kq, x138_94, rfl, HA, HJ94, HO_15, BK168, HB⟩ := hcut
                  cases kq with
                  | zero => exact absurd HA.out (by simp [broadsheetlaw27_FairTells.j3])
                  | succ kj94 =>
                    have H := HA.out
                    clear HA
                    simp only [broadsheetlaw27_FairTells.j3] at H
                    have HC99 := Aside0.mk H
                    clear H
                    go_upto_if 138 with (fail)
                    go_cut [20] (fun v20 wc => ∃ (kq : Nat) (x20_98 : Int), v20 = .int .i64 x20_98 ∧ Aside0 (broadsheetlaw27_FairTells.j4 kq a0 x15_27 x18_27 x20_98 a6_0 a6_1 a6_2 a6_3 a6_4 a6_5 a6_6 a6_7 = some r) ∧ Aside0 (kq ≤ kj94) ∧ Aside0 (Kd.N k32 32 wc w.heap.size (fun k_ => k_ ≠ gb168) u15 x15_27) ∧ Aside0 (wc.heap[gb168]? = some (.cells #[.int .i64 a6_0, .int .i64 a6_1, .int .i64 a6_2, .int .i64 a6_3, .int .i64 a6_4, .int .i64 a6_5, .int .i64 a6_6, .string a6_7] 24 (0, 0))) ∧ Aside0 (Below w.heap.size w wc))
                    case first =>
                      have H := HC99.out
                      clear HC99
                      by_cases c100 : x138_94 = true
                      · subst c100
                        have H1 : (broadsheetlaw27_FairTells.j4 kj94 a0 x15_27 x18_27 (wrap64 (0 + a6_4)) a6_0 a6_1 a6_2 a6_3 a6_4 a6_5 a6_6 a6_7) = some r := by rw [if_pos rfl] at H; exact H
                        clear H
                        have H := H1
                        clear H1
                        have H' := Aside0.mk H
                        clear H
                        have hcz101_0 : wc.cell? ⟨gb168, 0, none⟩ = some (.int .i64 a6_0) := (blk_cell BK168.out 0).trans rfl
                        have hcz101_1 : wc.cell? ⟨gb168, 1, none⟩ = some (.int .i64 a6_1) := (blk_cell BK168.out 1).trans rfl
                        have hcz101_2 : wc.cell? ⟨gb168, 2, none⟩ = some (.int .i64 a6_2) := (blk_cell BK168.out 2).trans rfl
                        have hcz101_3 : wc.cell? ⟨gb168, 3, none⟩ = some (.int .i64 a6_3) := (blk_cell BK168.out 3).trans rfl
                        have hcz101_4 : wc.cell? ⟨gb168, 4, none⟩ = some (.int .i64 a6_4) := (blk_cell BK168.out 4).trans rfl
                        have hcz101_5 : wc.cell? ⟨gb168, 5, none⟩ = some (.int .i64 a6_5) := (blk_cell BK168.out 5).trans rfl
                        have hcz101_6 : wc.cell? ⟨gb168, 6, none⟩ = some (.int .i64 a6_6) := (blk_cell BK168.out 6).trans rfl
                        have hcz101_7 : wc.cell? ⟨gb168, 7, none⟩ = some (.string a6_7) := (blk_cell BK168.out 7).trans rfl
                        have hfz101_0 := blk_frozen BK168.out 0
                        have hfz101_1 := blk_frozen BK168.out 1
                        have hfz101_2 := blk_frozen BK168.out 2
                        have hfz101_3 := blk_frozen BK168.out 3
                        have hfz101_4 := blk_frozen BK168.out 4
                        have hfz101_5 := blk_frozen BK168.out 5
                        have hfz101_6 := blk_frozen BK168.out 6
                        have hfz101_7 := blk_frozen BK168.out 7
                        go_wp2
                        go_meet
                        case rel => exact ⟨_, (wrap64 (0 + a6_4)), (by first | rfl | (simp; done) | (simp [*]; done)), H', ⟨by have := HK1.out; have := HJ8.out; have := HJ27.out; have := HJ94.out; first | omega | exact Nat.le_refl _⟩, ⟨by (with_reducible repeat (first | apply Kd.N_alloc | apply Kd.N_drewN | apply Kd.N_drew)); exact HO_15.out⟩, ⟨by (with_reducible repeat (first | refine blk_drewN ?_ _ | refine blk_drew ?_ | refine blk_alloc ?_ _)); exact BK168.out⟩, ⟨by repeat (first | (with_reducible first | exact HB.out | apply below_alloc | apply pw_below_drewN | apply below_drew1 | refine below_set ?_ GE168.out) | exact HB.out)⟩⟩
                      · replace c100 := Bool.eq_false_iff.mpr c100
                        subst c100
                        have H1 : (broadsheetlaw27_FairTells.j4 kj94 a0 x15_27 x18_27 0 a6_0 a6_1 a6_2 a6_3 a6_4 a6_5 a6_6 a6_7) = some r := by rw [if_neg (show ¬ (false = true) by decide)] at H; exact H
                        clear H
                        have H := H1
                        clear H1
                        have H' := Aside0.mk H
                        clear H
                        go_wp2
                        go_meet
                        case rel => exact ⟨_, (0), (by first | rfl | (simp; done) | (simp [*]; done)), H', ⟨by have := HK1.out; have := HJ8.out; have := HJ27.out; have := HJ94.out; first | omega | exact Nat.le_refl _⟩, ⟨by (with_reducible repeat (first | apply Kd.N_alloc | apply Kd.N_drewN | apply Kd.N_drew)); exact HO_15.out⟩, ⟨by (with_reducible repeat (first | refine blk_drewN ?_ _ | refine blk_drew ?_ | refine blk_alloc ?_ _)); exact BK168.out⟩, ⟨by repeat (first | (with_reducible first | exact HB.out | apply below_alloc | apply pw_below_drewN | apply below_drew1 | refine below_set ?_ GE168.out) | exact HB.out)⟩⟩
                    case rest =>
                      clear HC99
                      try clear c1
                      try clear p1
                      try clear q1
                      try clear hx1
                      try clear p2
                      try clear c3
                      try clear p3
                      try clear q3
                      try clear hx3
                      try clear c4
                      try clear p4
                      try clear q4
                      try clear hx4
                      try clear c5
                      try clear p5
                      try clear q5
                      try clear hx5
                      try clear c6
                      try clear p6
                      try clear q6
                      try clear hx6
                      try clear c7
                      try clear p7
                      try clear q7
                      try clear hx7
                      try clear hf7
                      try clear c8
                      try clear q8
                      try clear c9
                      try clear c10
                      try clear c10b0
                      try clear c11
                      try clear c12
                      try clear c12b0
                      try clear c13
                      try clear c13b0
                      try clear p16
                      try clear q16
                      try clear hx16
                      try clear c17
                      try clear p17
                      try clear q17
                      try clear hx17
                      try clear c18
                      try clear p18
                      try clear q18
                      try clear hx18
                      try clear c19
                      try clear p19
                      try clear q19
                      try clear hx19
                      try clear c30
                      try clear c30b0
                      try clear c30b1
                      try clear c32
                      try clear c33
                      try clear c33b0
                      try clear c33b1
                      try clear c34
                      try clear c34b0
                      try clear c35
                      try clear c35b0
                      try clear c36
                      try clear p36
                      try clear q36
                      try clear hx36
                      try clear hf36
                      try clear c41
                      try clear hx41
                      try clear hf41
                      try clear c43
                      try clear c43b0
                      try clear c43b1
                      try clear c44
                      try clear c44b0
                      try clear c45
                      try clear c45b0
                      try clear c46
                      try clear c46b0
                      try clear c46b1
                      try clear c47
                      try clear p47
                      try clear q47
                      try clear hx47
                      try clear hf47
                      try clear c52
                      try clear hx52
                      try clear hf52
                      try clear c54
                      try clear c54b0
                      try clear c54b1
                      try clear c55
                      try clear p55
                      try clear q55
                      try clear hx55
                      try clear hf55
                      try clear c60
                      try clear hx60
                      try clear hf60
                      try clear c62
                      try clear c62b0
                      try clear c62b1
                      try clear c63
                      try clear p63
                      try clear q63
                      try clear hx63
                      try clear hf63
                      try clear p64
                      try clear c68
                      try clear hx68
                      try clear hf68
                      try clear c70
                      try clear p70
                      try clear q70
                      try clear hx70
                      try clear hf70
                      try clear c75
                      try clear hx75
                      try clear hf75
                      try clear c77
                      try clear c77b0
                      try clear c77b1
                      try clear c78
                      try clear c78b0
                      try clear c78b1
                      try clear c79
                      try clear c79b0
                      try clear c79b1
                      try clear c81
                      try clear c81b0
                      try clear c81b1
                      try clear c82
                      try clear c82b0
                      try clear c82b1
                      try clear q87
                      try clear c89
                      try clear q89
                      try clear c96
                      try clear c96b0
                      try clear c100
                      try clear hcz101_0
                      try clear hcz101_1
                      try clear hcz101_2
                      try clear hcz101_3
                      try clear hcz101_4
                      try clear hcz101_5
                      try clear hcz101_6
                      try clear hcz101_7
                      try clear hcz97_0
                      try clear hcz97_1
                      try clear hcz97_2
                      try clear hcz97_3
                      try clear hcz97_4
                      try clear hcz97_5
                      try clear hcz97_6
                      try clear hcz97_7
                      try clear hcz98_0
                      try clear hcz98_1
                      try clear hcz98_2
                      try clear hcz98_3
                      try clear hcz98_4
                      try clear hcz98_5
                      try clear hcz98_6
                      try clear hcz98_7
                      try clear hfz101_0
                      try clear hfz101_1
                      try clear hfz101_2
                      try clear hfz101_3
                      try clear hfz101_4
                      try clear hfz101_5
                      try clear hfz101_6
                      try clear hfz101_7
                      try clear hfz97_0
                      try clear hfz97_1
                      try clear hfz97_2
                      try clear hfz97_3
                      try clear hfz97_4
                      try clear hfz97_5
                      try clear hfz97_6
                      try clear hfz97_7
                      try clear hfz98_0
                      try clear hfz98_1
                      try clear hfz98_2
                      try clear hfz98_3
                      try clear hfz98_4
                      try clear hfz98_5
                      try clear hfz98_6
                      try clear hfz98_7
                      try clear hx169_0
                      try clear hx173_0
                      try clear hx188_0
                      try clear hx188_1
                      try clear hx188_2
                      try clear hx188_3
                      try clear hx188_4
                      try clear hx190_0
                      try clear hx190_1
                      try clear hx190_2
                      try clear hx190_3
                      try clear hx190_4
                      try clear hx192_0
                      try clear hx192_1
                      try clear hx192_2
                      try clear hx192_3
                      try clear hx192_4
                      try clear hx194_0
                      try clear hx194_1
                      try clear hx194_2
                      try clear hx194_3
                      try clear hx194_4
                      try clear hx196_0
                      try clear hx196_1
                      try clear hx196_2
                      try clear hx196_3
                      try clear hx196_4
                      try clear hx36_0
                      try clear hx36_1
                      try clear hx36_2
                      try clear hx36_3
                      try clear hx36_4
                      try clear hx41_0
                      try clear hx47_0
                      try clear hx47_1
                      try clear hx47_2
                      try clear hx47_3
                      try clear hx47_4
                      try clear hx52_1
                      try clear hx55_0
                      try clear hx55_1
                      try clear hx55_2
                      try clear hx55_3
                      try clear hx55_4
                      try clear hx60_1
                      try clear hx63_0
                      try clear hx63_1
                      try clear hx63_2
                      try clear hx63_3
                      try clear hx63_4
                      try clear hx68_1
                      try clear hx70_0
                      try clear hx70_1
                      try clear hx70_2
                      try clear hx70_3
                      try clear hx70_4
                      try clear hx75_1
                      try clear p1
                      try clear p16
                      try clear p169
                      try clear p17
                      try clear p173
                      try clear p18
                      try clear p188
                      try clear p19
                      try clear p190
                      try clear p192
                      try clear p194
                      try clear p196
                      try clear p2
                      try clear p3
                      try clear p36
                      try clear p4
                      try clear p47
                      try clear p5
                      try clear p55
                      try clear p6
                      try clear p63
                      try clear p64
                      try clear p7
                      try clear p70
                      try clear q089
                      try clear q1
                      try clear q16
                      try clear q169
                      try clear q17
                      try clear q173
                      try clear q18
                      try clear q188
                      try clear q19
                      try clear q190
                      try clear q192
                      try clear q194
                      try clear q196
                      try clear q3
                      try clear q36
                      try clear q4
                      try clear q47
                      try clear q5
                      try clear q55
                      try clear q6
                      try clear q63
                      try clear q7
                      try clear q70
                      try clear q8
                      try clear q87
                      try clear q89
                      obtain ⟨kq, x20_98, rfl, HA, HJ98, HO_15, BK168, HB⟩ := hcut
                      cases kq with
                      | zero => exact absurd HA.out (by simp [broadsheetlaw27_FairTells.j4])
                      | succ kj98 =>
                        have H := HA.out
                        clear HA
                        simp only [broadsheetlaw27_FairTells.j4] at H
                        have HC102 := Aside0.mk H
                        clear H
                        go_upto_region 26 with (fail)
                        go_cut [150] (fun v150 wc => ∃ (kq : Nat) (x150_101 : Bool), v150 = .bool x150_101 ∧ Aside0 (broadsheetlaw27_FairTells.j5 kq a0 x15_27 x18_27 x20_98 x150_101 a6_0 a6_1 a6_2 a6_3 a6_4 a6_5 a6_6 a6_7 = some r) ∧ Aside0 (kq ≤ kj98) ∧ Aside0 (Kd.N k32 32 wc w.heap.size (fun k_ => k_ ≠ gb168) u15 x15_27) ∧ Aside0 (wc.heap[gb168]? = some (.cells #[.int .i64 a6_0, .int .i64 a6_1, .int .i64 a6_2, .int .i64 a6_3, .int .i64 a6_4, .int .i64 a6_5, .int .i64 a6_6, .string a6_7] 24 (0, 0))) ∧ Aside0 (Below w.heap.size w wc))
                        case first =>
                          have H := HC102.out
                          clear HC102
                          by_cases c103 : a6_5 ≥ 1
                          · rw [if_pos c103] at H
                            have c103b0 : decide (1 ≤ a6_5) = true := decide_eq_true c103
                            clear c103
                            (first | rw [c103b0] | (simp only [i64_w, i32_w]; rw [c103b0]) | skip)
                            have H' := Aside0.mk H
                            clear H
                            have hcz104_0 : wc.cell? ⟨gb168, 0, none⟩ = some (.int .i64 a6_0) := (blk_cell BK168.out 0).trans rfl
                            have hcz104_1 : wc.cell? ⟨gb168, 1, none⟩ = some (.int .i64 a6_1) := (blk_cell BK168.out 1).trans rfl
                            have hcz104_2 : wc.cell? ⟨gb168, 2, none⟩ = some (.int .i64 a6_2) := (blk_cell BK168.out 2).trans rfl
                            have hcz104_3 : wc.cell? ⟨gb168, 3, none⟩ = some (.int .i64 a6_3) := (blk_cell BK168.out 3).trans rfl
                            have hcz104_4 : wc.cell? ⟨gb168, 4, none⟩ = some (.int .i64 a6_4) := (blk_cell BK168.out 4).trans rfl
                            have hcz104_5 : wc.cell? ⟨gb168, 5, none⟩ = some (.int .i64 a6_5) := (blk_cell BK168.out 5).trans rfl
                            have hcz104_6 : wc.cell? ⟨gb168, 6, none⟩ = some (.int .i64 a6_6) := (blk_cell BK168.out 6).trans rfl
                            have hcz104_7 : wc.cell? ⟨gb168, 7, none⟩ = some (.string a6_7) := (blk_cell BK168.out 7).trans rfl
                            have hfz104_0 := blk_frozen BK168.out 0
                            have hfz104_1 := blk_frozen BK168.out 1
                            have hfz104_2 := blk_frozen BK168.out 2
                            have hfz104_3 := blk_frozen BK168.out 3
                            have hfz104_4 := blk_frozen BK168.out 4
                            have hfz104_5 := blk_frozen BK168.out 5
                            have hfz104_6 := blk_frozen BK168.out 6
                            have hfz104_7 := blk_frozen BK168.out 7
                            go_wp2
                            go_meet
                            case rel => exact ⟨_, (decide (a6_5 ≤ 100)), (by first | rfl | (simp; done) | (simp [*]; done)), H', ⟨by have := HK1.out; have := HJ8.out; have := HJ27.out; have := HJ94.out; have := HJ98.out; first | omega | exact Nat.le_refl _⟩, ⟨by (with_reducible repeat (first | apply Kd.N_alloc | apply Kd.N_drewN | apply Kd.N_drew)); exact HO_15.out⟩, ⟨by (with_reducible repeat (first | refine blk_drewN ?_ _ | refine blk_drew ?_ | refine blk_alloc ?_ _)); exact BK168.out⟩, ⟨by repeat (first | (with_reducible first | exact HB.out | apply below_alloc | apply pw_below_drewN | apply below_drew1 | refine below_set ?_ GE168.out) | exact HB.out)⟩⟩
                          · rw [if_neg c103] at H
                            have c103b0 : decide (1 ≤ a6_5) = false := decide_eq_false c103
                            clear c103
                            (first | rw [c103b0] | (simp only [i64_w, i32_w]; rw [c103b0]) | skip)
                            have H' := Aside0.mk H
                            clear H
                            have hcz105_0 : wc.cell? ⟨gb168, 0, none⟩ = some (.int .i64 a6_0) := (blk_cell BK168.out 0).trans rfl
                            have hcz105_1 : wc.cell? ⟨gb168, 1, none⟩ = some (.int .i64 a6_1) := (blk_cell BK168.out 1).trans rfl
                            have hcz105_2 : wc.cell? ⟨gb168, 2, none⟩ = some (.int .i64 a6_2) := (blk_cell BK168.out 2).trans rfl
                            have hcz105_3 : wc.cell? ⟨gb168, 3, none⟩ = some (.int .i64 a6_3) := (blk_cell BK168.out 3).trans rfl
                            have hcz105_4 : wc.cell? ⟨gb168, 4, none⟩ = some (.int .i64 a6_4) := (blk_cell BK168.out 4).trans rfl
                            have hcz105_5 : wc.cell? ⟨gb168, 5, none⟩ = some (.int .i64 a6_5) := (blk_cell BK168.out 5).trans rfl
                            have hcz105_6 : wc.cell? ⟨gb168, 6, none⟩ = some (.int .i64 a6_6) := (blk_cell BK168.out 6).trans rfl
                            have hcz105_7 : wc.cell? ⟨gb168, 7, none⟩ = some (.string a6_7) := (blk_cell BK168.out 7).trans rfl
                            have hfz105_0 := blk_frozen BK168.out 0
                            have hfz105_1 := blk_frozen BK168.out 1
                            have hfz105_2 := blk_frozen BK168.out 2
                            have hfz105_3 := blk_frozen BK168.out 3
                            have hfz105_4 := blk_frozen BK168.out 4
                            have hfz105_5 := blk_frozen BK168.out 5
                            have hfz105_6 := blk_frozen BK168.out 6
                            have hfz105_7 := blk_frozen BK168.out 7
                            go_wp2
                            go_meet
                            case rel => exact ⟨_, (false), (by first | rfl | (simp; done) | (simp [*]; done)), H', ⟨by have := HK1.out; have := HJ8.out; have := HJ27.out; have := HJ94.out; have := HJ98.out; first | omega | exact Nat.le_refl _⟩, ⟨by (with_reducible repeat (first | apply Kd.N_alloc | apply Kd.N_drewN | apply Kd.N_drew)); exact HO_15.out⟩, ⟨by (with_reducible repeat (first | refine blk_drewN ?_ _ | refine blk_drew ?_ | refine blk_alloc ?_ _)); exact BK168.out⟩, ⟨by repeat (first | (with_reducible first | exact HB.out | apply below_alloc | apply pw_below_drewN | apply below_drew1 | refine below_set ?_ GE168.out) | exact HB.out)⟩⟩
                        case rest =>
                          clear HC102
                          try clear c1
                          try clear p1
                          try clear q1
                          try clear hx1
                          try clear p2
                          try clear c3
                          try clear p3
                          try clear q3
                          try clear hx3
                          try clear c4
                          try clear p4
                          try clear q4
                          try clear hx4
                          try clear c5
                          try clear p5
                          try clear q5
                          try clear hx5
                          try clear c6
                          try clear p6
                          try clear q6
                          try clear hx6
                          try clear c7
                          try clear p7
                          try clear q7
                          try clear hx7
                          try clear hf7
                          try clear c8
                          try clear q8
                          try clear c9
                          try clear c10
                          try clear c10b0
                          try clear c11
                          try clear c12
                          try clear c12b0
                          try clear c13
                          try clear c13b0
                          try clear p16
                          try clear q16
                          try clear hx16
                          try clear c17
                          try clear p17
                          try clear q17
                          try clear hx17
                          try clear c18
                          try clear p18
                          try clear q18
                          try clear hx18
                          try clear c19
                          try clear p19
                          try clear q19
                          try clear hx19
                          try clear c30
                          try clear c30b0
                          try clear c30b1
                          try clear c32
                          try clear c33
                          try clear c33b0
                          try clear c33b1
                          try clear c34
                          try clear c34b0
                          try clear c35
                          try clear c35b0
                          try clear c36
                          try clear p36
                          try clear q36
                          try clear hx36
                          try clear hf36
                          try clear c41
                          try clear hx41
                          try clear hf41
                          try clear c43
                          try clear c43b0
                          try clear c43b1
                          try clear c44
                          try clear c44b0
                          try clear c45
                          try clear c45b0
                          try clear c46
                          try clear c46b0
                          try clear c46b1
                          try clear c47
                          try clear p47
                          try clear q47
                          try clear hx47
                          try clear hf47
                          try clear c52
                          try clear hx52
                          try clear hf52
                          try clear c54
                          try clear c54b0
                          try clear c54b1
                          try clear c55
                          try clear p55
                          try clear q55
                          try clear hx55
                          try clear hf55
                          try clear c60
                          try clear hx60
                          try clear hf60
                          try clear c62
                          try clear c62b0
                          try clear c62b1
                          try clear c63
                          try clear p63
                          try clear q63
                          try clear hx63
                          try clear hf63
                          try clear p64
                          try clear c68
                          try clear hx68
                          try clear hf68
                          try clear c70
                          try clear p70
                          try clear q70
                          try clear hx70
                          try clear hf70
                          try clear c75
                          try clear hx75
                          try clear hf75
                          try clear c77
                          try clear c77b0
                          try clear c77b1
                          try clear c78
                          try clear c78b0
                          try clear c78b1
                          try clear c79
                          try clear c79b0
                          try clear c79b1
                          try clear c81
                          try clear c81b0
                          try clear c81b1
                          try clear c82
                          try clear c82b0
                          try clear c82b1
                          try clear q87
                          try clear c89
                          try clear q89
                          try clear c96
                          try clear c96b0
                          try clear c100
                          try clear c103
                          try clear c103b0
                          try clear hcz101_0
                          try clear hcz101_1
                          try clear hcz101_2
                          try clear hcz101_3
                          try clear hcz101_4
                          try clear hcz101_5
                          try clear hcz101_6
                          try clear hcz101_7
                          try clear hcz104_0
                          try clear hcz104_1
                          try clear hcz104_2
                          try clear hcz104_3
                          try clear hcz104_4
                          try clear hcz104_5
                          try clear hcz104_6
                          try clear hcz104_7
                          try clear hcz105_0
                          try clear hcz105_1
                          try clear hcz105_2
                          try clear hcz105_3
                          try clear hcz105_4
                          try clear hcz105_5
                          try clear hcz105_6
                          try clear hcz105_7
                          try clear hcz97_0
                          try clear hcz97_1
                          try clear hcz97_2
                          try clear hcz97_3
                          try clear hcz97_4
                          try clear hcz97_5
                          try clear hcz97_6
                          try clear hcz97_7
                          try clear hcz98_0
                          try clear hcz98_1
                          try clear hcz98_2
                          try clear hcz98_3
                          try clear hcz98_4
                          try clear hcz98_5
                          try clear hcz98_6
                          try clear hcz98_7
                          try clear hfz101_0
                          try clear hfz101_1
                          try clear hfz101_2
                          try clear hfz101_3
                          try clear hfz101_4
                          try clear hfz101_5
                          try clear hfz101_6
                          try clear hfz101_7
                          try clear hfz104_0
                          try clear hfz104_1
                          try clear hfz104_2
                          try clear hfz104_3
                          try clear hfz104_4
                          try clear hfz104_5
                          try clear hfz104_6
                          try clear hfz104_7
                          try clear hfz105_0
                          try clear hfz105_1
                          try clear hfz105_2
                          try clear hfz105_3
                          try clear hfz105_4
                          try clear hfz105_5
                          try clear hfz105_6
                          try clear hfz105_7
                          try clear hfz97_0
                          try clear hfz97_1
                          try clear hfz97_2
                          try clear hfz97_3
                          try clear hfz97_4
                          try clear hfz97_5
                          try clear hfz97_6
                          try clear hfz97_7
                          try clear hfz98_0
                          try clear hfz98_1
                          try clear hfz98_2
                          try clear hfz98_3
                          try clear hfz98_4
                          try clear hfz98_5
                          try clear hfz98_6
                          try clear hfz98_7
                          try clear hx169_0
                          try clear hx173_0
                          try clear hx188_0
                          try clear hx188_1
                          try clear hx188_2
                          try clear hx188_3
                          try clear hx188_4
                          try clear hx190_0
                          try clear hx190_1
                          try clear hx190_2
                          try clear hx190_3
                          try clear hx190_4
                          try clear hx192_0
                          try clear hx192_1
                          try clear hx192_2
                          try clear hx192_3
                          try clear hx192_4
                          try clear hx194_0
                          try clear hx194_1
                          try clear hx194_2
                          try clear hx194_3
                          try clear hx194_4
                          try clear hx196_0
                          try clear hx196_1
                          try clear hx196_2
                          try clear hx196_3
                          try clear hx196_4
                          try clear hx36_0
                          try clear hx36_1
                          try clear hx36_2
                          try clear hx36_3
                          try clear hx36_4
                          try clear hx41_0
                          try clear hx47_0
                          try clear hx47_1
                          try clear hx47_2
                          try clear hx47_3
                          try clear hx47_4
                          try clear hx52_1
                          try clear hx55_0
                          try clear hx55_1
                          try clear hx55_2
                          try clear hx55_3
                          try clear hx55_4
                          try clear hx60_1
                          try clear hx63_0
                          try clear hx63_1
                          try clear hx63_2
                          try clear hx63_3
                          try clear hx63_4
                          try clear hx68_1
                          try clear hx70_0
                          try clear hx70_1
                          try clear hx70_2
                          try clear hx70_3
                          try clear hx70_4
                          try clear hx75_1
                          try clear p1
                          try clear p16
                          try clear p169
                          try clear p17
                          try clear p173
                          try clear p18
                          try clear p188
                          try clear p19
                          try clear p190
                          try clear p192
                          try clear p194
                          try clear p196
                          try clear p2
                          try clear p3
                          try clear p36
                          try clear p4
                          try clear p47
                          try clear p5
                          try clear p55
                          try clear p6
                          try clear p63
                          try clear p64
                          try clear p7
                          try clear p70
                          try clear q089
                          try clear q1
                          try clear q16
                          try clear q169
                          try clear q17
                          try clear q173
                          try clear q18
                          try clear q188
                          try clear q19
                          try clear q190
                          try clear q192
                          try clear q194
                          try clear q196
                          try clear q3
                          try clear q36
                          try clear q4
                          try clear q47
                          try clear q5
                          try clear q55
                          try clear q6
                          try clear q63
                          try clear q7
                          try clear q70
                          try clear q8
                          try clear q87
                          try clear q89
                          obtain ⟨kq, x150_101, rfl, HA, HJ101, HO_15, BK168, HB⟩ := hcut
                          cases kq with
                          | zero => exact absurd HA.out (by simp [broadsheetlaw27_FairTells.j5])
                          | succ kj101 =>
                            have H := HA.out
                            clear HA
                            simp only [broadsheetlaw27_FairTells.j5] at H
                            by_cases c106 : x150_101 = true
                            · subst c106
                              have H1 : ((fair_Fair.f kj101 a0 x15_27).bind fun t211 => (if (t211 == x18_27) = true then ((fair_Rounds.f a6_0 a6_1 a6_2 a6_3 a6_4 a6_5 a6_6 a6_7).bind fun t212 => (if t212 = (wrap64 ((wrap64 ((wrap64 (x20_98 + (wrap64 (16 * a6_5)))) + 32)) + 10)) then ((broadsheetlaw27_known.f kj101).bind fun t213 => (some t213)) else (some false))) else (some false))) = some r := by rw [if_pos rfl] at H; exact H
                              clear H
                              have H := H1
                              clear H1
                              replace H := Option.bind_eq_some_iff.mp H
                              obtain ⟨t211, A1070, H⟩ := H
                              replace H : (if (t211 == x18_27) = true then ((fair_Rounds.f a6_0 a6_1 a6_2 a6_3 a6_4 a6_5 a6_6 a6_7).bind fun t212 => (if t212 = (wrap64 ((wrap64 ((wrap64 (x20_98 + (wrap64 (16 * a6_5)))) + 32)) + 10)) then ((broadsheetlaw27_known.f kj101).bind fun t213 => (some t213)) else (some false))) else (some false)) = some r := H
                              have A107 := Aside0.mk A1070
                              clear A1070
                              by_cases c108 : (t211 == x18_27) = true
                              · rw [if_pos c108] at H
                                have c108b0 : (t211 == x18_27) = true := c108
                                (try (have c108b1 : decide (t211 = x18_27) = true := by simpa using c108))
                                (try (have c108b2 : (t211 == x18_27) = true := by simpa using c108))
                                clear c108
                                replace H := Option.bind_eq_some_iff.mp H
                                obtain ⟨t212, A1090, H⟩ := H
                                replace H : (if t212 = (wrap64 ((wrap64 ((wrap64 (x20_98 + (wrap64 (16 * a6_5)))) + 32)) + 10)) then ((broadsheetlaw27_known.f kj101).bind fun t213 => (some t213)) else (some false)) = some r := H
                                have A109 := Aside0.mk A1090
                                clear A1090
                                by_cases c110 : t212 = (wrap64 ((wrap64 ((wrap64 (x20_98 + (wrap64 (16 * a6_5)))) + 32)) + 10))
                                · rw [if_pos c110] at H
                                  have c110b0 : (t212 == (wrap64 ((wrap64 ((wrap64 (x20_98 + (wrap64 (16 * a6_5)))) + 32)) + 10))) = true := beq_iff_eq.mpr c110
                                  have c110b1 : (t212 != (wrap64 ((wrap64 ((wrap64 (x20_98 + (wrap64 (16 * a6_5)))) + 32)) + 10))) = false := bne_eq_false_iff_eq.mpr c110
                                  clear c110
                                  replace H := Option.bind_eq_some_iff.mp H
                                  obtain ⟨t213, A1110, H⟩ := H
                                  replace H : (some t213) = some r := H
                                  have A111 := Aside0.mk A1110
                                  clear A1110
                                  obtain rfl := Option.some.inj H
                                  have hcz112_0 : wc.cell? ⟨gb168, 0, none⟩ = some (.int .i64 a6_0) := (blk_cell BK168.out 0).trans rfl
                                  have hcz112_1 : wc.cell? ⟨gb168, 1, none⟩ = some (.int .i64 a6_1) := (blk_cell BK168.out 1).trans rfl
                                  have hcz112_2 : wc.cell? ⟨gb168, 2, none⟩ = some (.int .i64 a6_2) := (blk_cell BK168.out 2).trans rfl
                                  have hcz112_3 : wc.cell? ⟨gb168, 3, none⟩ = some (.int .i64 a6_3) := (blk_cell BK168.out 3).trans rfl
                                  have hcz112_4 : wc.cell? ⟨gb168, 4, none⟩ = some (.int .i64 a6_4) := (blk_cell BK168.out 4).trans rfl
                                  have hcz112_5 : wc.cell? ⟨gb168, 5, none⟩ = some (.int .i64 a6_5) := (blk_cell BK168.out 5).trans rfl
                                  have hcz112_6 : wc.cell? ⟨gb168, 6, none⟩ = some (.int .i64 a6_6) := (blk_cell BK168.out 6).trans rfl
                                  have hcz112_7 : wc.cell? ⟨gb168, 7, none⟩ = some (.string a6_7) := (blk_cell BK168.out 7).trans rfl
                                  have hfz112_0 := blk_frozen BK168.out 0
                                  have hfz112_1 := blk_frozen BK168.out 1
                                  have hfz112_2 := blk_frozen BK168.out 2
                                  have hfz112_3 := blk_frozen BK168.out 3
                                  have hfz112_4 := blk_frozen BK168.out 4
                                  have hfz112_5 := blk_frozen BK168.out 5
                                  have hfz112_6 := blk_frozen BK168.out 6
                                  have hfz112_7 := blk_frozen BK168.out 7
                                  obtain ⟨Ao113, co113, eo113⟩ := Kd.N_slice HO_15.out
                                  subst eo113
                                  go_wp2_with (first | ((with_reducible refine gate_callee (f := 8) rfl ?_); refine goesL_ (some 158) rfl rfl Try.func8 (by kernel_rfl) rfl #[.int .i64 a0, .slice Ao113 x15_27.length co113] rfl (by (try simp only [List.map_toArray, List.map_cons, List.map_nil]); first | done | rfl | (simp only [List.length_drop, List.length_take]; rfl)) ?_; (with_reducible refine (fair_Fair.calls kj101 a0 _ _ x15_27 t211 _ ?side1 ?side2 A107.out).mono ?_); (case side1 => repeat (first | exact (Kd.N_reads' HO_15.out).2.2 | (with_reducible refine Kd.C_alloc ?_ _) | (with_reducible refine Kd.C_drewN ?_ _) | (with_reducible refine Kd.C_drew ?_))); (case side2 => exact (Kd.N_reads' HO_15.out).2.1); rintro e w114 ⟨rfl, hb⟩; refine ⟨_, rfl, ?_⟩; have n0_ := Aside0.mk (Kd.N_below (by (with_reducible repeat (first | apply Kd.N_alloc | apply Kd.N_drewN | apply Kd.N_drew)); exact HO_15.out) hb); have n1_ := Aside0.mk (blk_below (g := gb168) (o := .cells #[.int .i64 a6_0, .int .i64 a6_1, .int .i64 a6_2, .int .i64 a6_3, .int .i64 a6_4, .int .i64 a6_5, .int .i64 a6_6, .string a6_7] 24 (0, 0)) (by (with_reducible repeat (first | refine blk_drewN ?_ _ | refine blk_drew ?_ | refine blk_alloc ?_ _)); exact BK168.out) hb); have n2_ := Aside0.mk (below_step (by repeat (first | (with_reducible first | exact HB.out | apply below_alloc | apply pw_below_drewN | apply below_drew1 | refine below_set ?_ GE168.out) | exact HB.out)) hb); clear HO_15; clear BK168; clear HB; have HO_15 := n0_; have BK168 := n1_; have HB := n2_; clear n0_ n1_ n2_; (try clear hb); (try clear hb2); (try clear hk); (try clear hi); have hcz115_0 : w114.cell? ⟨gb168, 0, none⟩ = some (.int .i64 a6_0) := (blk_cell BK168.out 0).trans rfl; have hcz115_1 : w114.cell? ⟨gb168, 1, none⟩ = some (.int .i64 a6_1) := (blk_cell BK168.out 1).trans rfl; have hcz115_2 : w114.cell? ⟨gb168, 2, none⟩ = some (.int .i64 a6_2) := (blk_cell BK168.out 2).trans rfl; have hcz115_3 : w114.cell? ⟨gb168, 3, none⟩ = some (.int .i64 a6_3) := (blk_cell BK168.out 3).trans rfl; have hcz115_4 : w114.cell? ⟨gb168, 4, none⟩ = some (.int .i64 a6_4) := (blk_cell BK168.out 4).trans rfl; have hcz115_5 : w114.cell? ⟨gb168, 5, none⟩ = some (.int .i64 a6_5) := (blk_cell BK168.out 5).trans rfl; have hcz115_6 : w114.cell? ⟨gb168, 6, none⟩ = some (.int .i64 a6_6) := (blk_cell BK168.out 6).trans rfl; have hcz115_7 : w114.cell? ⟨gb168, 7, none⟩ = some (.string a6_7) := (blk_cell BK168.out 7).trans rfl; have hfz115_0 := blk_frozen BK168.out 0; have hfz115_1 := blk_frozen BK168.out 1; have hfz115_2 := blk_frozen BK168.out 2; have hfz115_3 := blk_frozen BK168.out 3; have hfz115_4 := blk_frozen BK168.out 4; have hfz115_5 := blk_frozen BK168.out 5; have hfz115_6 := blk_frozen BK168.out 6; have hfz115_7 := blk_frozen BK168.out 7) | (go_at_call 9; (with_reducible refine (fair_Rounds.calls a6_0 a6_1 a6_2 a6_3 a6_4 a6_5 a6_6 a6_7 t212 _ A109.out).mono ?_); rintro e w116 ⟨rfl, hb⟩; have n0_ := Aside0.mk (Kd.N_below (by (with_reducible repeat (first | apply Kd.N_alloc | apply Kd.N_drewN | apply Kd.N_drew)); exact HO_15.out) hb); have n1_ := Aside0.mk (blk_below (g := gb168) (o := .cells #[.int .i64 a6_0, .int .i64 a6_1, .int .i64 a6_2, .int .i64 a6_3, .int .i64 a6_4, .int .i64 a6_5, .int .i64 a6_6, .string a6_7] 24 (0, 0)) (by (with_reducible repeat (first | refine blk_drewN ?_ _ | refine blk_drew ?_ | refine blk_alloc ?_ _)); exact BK168.out) hb); have n2_ := Aside0.mk (below_step (by repeat (first | (with_reducible first | exact HB.out | apply below_alloc | apply pw_below_drewN | apply below_drew1 | refine below_set ?_ GE168.out) | exact HB.out)) hb); clear HO_15; clear BK168; clear HB; have HO_15 := n0_; have BK168 := n1_; have HB := n2_; clear n0_ n1_ n2_; (try clear hb); (try clear hb2); (try clear hk); (try clear hi)) | (go_at_call 10; (with_reducible refine (broadsheetlaw27_known.calls kj101  t213 _ A111.out).mono ?_); rintro e w117 ⟨rfl, hb⟩; have n0_ := Aside0.mk (Kd.N_below (by (with_reducible repeat (first | apply Kd.N_alloc | apply Kd.N_drewN | apply Kd.N_drew)); exact HO_15.out) hb); have n1_ := Aside0.mk (blk_below (g := gb168) (o := .cells #[.int .i64 a6_0, .int .i64 a6_1, .int .i64 a6_2, .int .i64 a6_3, .int .i64 a6_4, .int .i64 a6_5, .int .i64 a6_6, .string a6_7] 24 (0, 0)) (by (with_reducible repeat (first | refine blk_drewN ?_ _ | refine blk_drew ?_ | refine blk_alloc ?_ _)); exact BK168.out) hb); have n2_ := Aside0.mk (below_step (by repeat (first | (with_reducible first | exact HB.out | apply below_alloc | apply pw_below_drewN | apply below_drew1 | refine below_set ?_ GE168.out) | exact HB.out)) hb); clear HO_15; clear BK168; clear HB; have HO_15 := n0_; have BK168 := n1_; have HB := n2_; clear n0_ n1_ n2_; (try clear hb); (try clear hb2); (try clear hk); (try clear hi)))
                                  go_ret
                                  exact ⟨by first | rfl | (simp [errW_none, errW_some] <;> rfl) | (simp [*, errW_none, errW_some] <;> rfl), by repeat (first | (with_reducible first | exact HB.out | apply below_alloc | apply pw_below_drewN | apply below_drew1 | refine below_set ?_ GE168.out) | exact HB.out)⟩
                                · rw [if_neg c110] at H
                                  have c110b0 : (t212 == (wrap64 ((wrap64 ((wrap64 (x20_98 + (wrap64 (16 * a6_5)))) + 32)) + 10))) = false := beq_eq_false_iff_ne.mpr c110
                                  have c110b1 : (t212 != (wrap64 ((wrap64 ((wrap64 (x20_98 + (wrap64 (16 * a6_5)))) + 32)) + 10))) = true := bne_iff_ne.mpr c110
                                  obtain rfl := Option.some.inj H
                                  have hcz118_0 : wc.cell? ⟨gb168, 0, none⟩ = some (.int .i64 a6_0) := (blk_cell BK168.out 0).trans rfl
                                  have hcz118_1 : wc.cell? ⟨gb168, 1, none⟩ = some (.int .i64 a6_1) := (blk_cell BK168.out 1).trans rfl
                                  have hcz118_2 : wc.cell? ⟨gb168, 2, none⟩ = some (.int .i64 a6_2) := (blk_cell BK168.out 2).trans rfl
                                  have hcz118_3 : wc.cell? ⟨gb168, 3, none⟩ = some (.int .i64 a6_3) := (blk_cell BK168.out 3).trans rfl
                                  have hcz118_4 : wc.cell? ⟨gb168, 4, none⟩ = some (.int .i64 a6_4) := (blk_cell BK168.out 4).trans rfl
                                  have hcz118_5 : wc.cell? ⟨gb168, 5, none⟩ = some (.int .i64 a6_5) := (blk_cell BK168.out 5).trans rfl
                                  have hcz118_6 : wc.cell? ⟨gb168, 6, none⟩ = some (.int .i64 a6_6) := (blk_cell BK168.out 6).trans rfl
                                  have hcz118_7 : wc.cell? ⟨gb168, 7, none⟩ = some (.string a6_7) := (blk_cell BK168.out 7).trans rfl
                                  have hfz118_0 := blk_frozen BK168.out 0
                                  have hfz118_1 := blk_frozen BK168.out 1
                                  have hfz118_2 := blk_frozen BK168.out 2
                                  have hfz118_3 := blk_frozen BK168.out 3
                                  have hfz118_4 := blk_frozen BK168.out 4
                                  have hfz118_5 := blk_frozen BK168.out 5
                                  have hfz118_6 := blk_frozen BK168.out 6
                                  have hfz118_7 := blk_frozen BK168.out 7
                                  obtain ⟨Ao119, co119, eo119⟩ := Kd.N_slice HO_15.out
                                  subst eo119
                                  go_wp2_with (first | ((with_reducible refine gate_callee (f := 8) rfl ?_); refine goesL_ (some 158) rfl rfl Try.func8 (by kernel_rfl) rfl #[.int .i64 a0, .slice Ao119 x15_27.length co119] rfl (by (try simp only [List.map_toArray, List.map_cons, List.map_nil]); first | done | rfl | (simp only [List.length_drop, List.length_take]; rfl)) ?_; (with_reducible refine (fair_Fair.calls kj101 a0 _ _ x15_27 t211 _ ?side1 ?side2 A107.out).mono ?_); (case side1 => repeat (first | exact (Kd.N_reads' HO_15.out).2.2 | (with_reducible refine Kd.C_alloc ?_ _) | (with_reducible refine Kd.C_drewN ?_ _) | (with_reducible refine Kd.C_drew ?_))); (case side2 => exact (Kd.N_reads' HO_15.out).2.1); rintro e w120 ⟨rfl, hb⟩; refine ⟨_, rfl, ?_⟩; have n0_ := Aside0.mk (Kd.N_below (by (with_reducible repeat (first | apply Kd.N_alloc | apply Kd.N_drewN | apply Kd.N_drew)); exact HO_15.out) hb); have n1_ := Aside0.mk (blk_below (g := gb168) (o := .cells #[.int .i64 a6_0, .int .i64 a6_1, .int .i64 a6_2, .int .i64 a6_3, .int .i64 a6_4, .int .i64 a6_5, .int .i64 a6_6, .string a6_7] 24 (0, 0)) (by (with_reducible repeat (first | refine blk_drewN ?_ _ | refine blk_drew ?_ | refine blk_alloc ?_ _)); exact BK168.out) hb); have n2_ := Aside0.mk (below_step (by repeat (first | (with_reducible first | exact HB.out | apply below_alloc | apply pw_below_drewN | apply below_drew1 | refine below_set ?_ GE168.out) | exact HB.out)) hb); clear HO_15; clear BK168; clear HB; have HO_15 := n0_; have BK168 := n1_; have HB := n2_; clear n0_ n1_ n2_; (try clear hb); (try clear hb2); (try clear hk); (try clear hi); have hcz121_0 : w120.cell? ⟨gb168, 0, none⟩ = some (.int .i64 a6_0) := (blk_cell BK168.out 0).trans rfl; have hcz121_1 : w120.cell? ⟨gb168, 1, none⟩ = some (.int .i64 a6_1) := (blk_cell BK168.out 1).trans rfl; have hcz121_2 : w120.cell? ⟨gb168, 2, none⟩ = some (.int .i64 a6_2) := (blk_cell BK168.out 2).trans rfl; have hcz121_3 : w120.cell? ⟨gb168, 3, none⟩ = some (.int .i64 a6_3) := (blk_cell BK168.out 3).trans rfl; have hcz121_4 : w120.cell? ⟨gb168, 4, none⟩ = some (.int .i64 a6_4) := (blk_cell BK168.out 4).trans rfl; have hcz121_5 : w120.cell? ⟨gb168, 5, none⟩ = some (.int .i64 a6_5) := (blk_cell BK168.out 5).trans rfl; have hcz121_6 : w120.cell? ⟨gb168, 6, none⟩ = some (.int .i64 a6_6) := (blk_cell BK168.out 6).trans rfl; have hcz121_7 : w120.cell? ⟨gb168, 7, none⟩ = some (.string a6_7) := (blk_cell BK168.out 7).trans rfl; have hfz121_0 := blk_frozen BK168.out 0; have hfz121_1 := blk_frozen BK168.out 1; have hfz121_2 := blk_frozen BK168.out 2; have hfz121_3 := blk_frozen BK168.out 3; have hfz121_4 := blk_frozen BK168.out 4; have hfz121_5 := blk_frozen BK168.out 5; have hfz121_6 := blk_frozen BK168.out 6; have hfz121_7 := blk_frozen BK168.out 7) | (go_at_call 9; (with_reducible refine (fair_Rounds.calls a6_0 a6_1 a6_2 a6_3 a6_4 a6_5 a6_6 a6_7 t212 _ A109.out).mono ?_); rintro e w122 ⟨rfl, hb⟩; have n0_ := Aside0.mk (Kd.N_below (by (with_reducible repeat (first | apply Kd.N_alloc | apply Kd.N_drewN | apply Kd.N_drew)); exact HO_15.out) hb); have n1_ := Aside0.mk (blk_below (g := gb168) (o := .cells #[.int .i64 a6_0, .int .i64 a6_1, .int .i64 a6_2, .int .i64 a6_3, .int .i64 a6_4, .int .i64 a6_5, .int .i64 a6_6, .string a6_7] 24 (0, 0)) (by (with_reducible repeat (first | refine blk_drewN ?_ _ | refine blk_drew ?_ | refine blk_alloc ?_ _)); exact BK168.out) hb); have n2_ := Aside0.mk (below_step (by repeat (first | (with_reducible first | exact HB.out | apply below_alloc | apply pw_below_drewN | apply below_drew1 | refine below_set ?_ GE168.out) | exact HB.out)) hb); clear HO_15; clear BK168; clear HB; have HO_15 := n0_; have BK168 := n1_; have HB := n2_; clear n0_ n1_ n2_; (try clear hb); (try clear hb2); (try clear hk); (try clear hi)))
                                  go_ret
                                  exact ⟨by first | rfl | (simp [errW_none, errW_some] <;> rfl) | (simp [*, errW_none, errW_some] <;> rfl), by repeat (first | (with_reducible first | exact HB.out | apply below_alloc | apply pw_below_drewN | apply below_drew1 | refine below_set ?_ GE168.out) | exact HB.out)⟩
                              · rw [if_neg c108] at H
                                have c108b0 : (t211 == x18_27) = false := by simpa using c108
                                (try (have c108b1 : decide (t211 = x18_27) = false := by simpa using c108))
                                (try (have c108b2 : (t211 == x18_27) = false := by simpa using c108))
                                (try (have c108b3 : ¬ (t211 = x18_27) := by simpa using c108))
                                clear c108
                                obtain rfl := Option.some.inj H
                                have hcz123_0 : wc.cell? ⟨gb168, 0, none⟩ = some (.int .i64 a6_0) := (blk_cell BK168.out 0).trans rfl
                                have hcz123_1 : wc.cell? ⟨gb168, 1, none⟩ = some (.int .i64 a6_1) := (blk_cell BK168.out 1).trans rfl
                                have hcz123_2 : wc.cell? ⟨gb168, 2, none⟩ = some (.int .i64 a6_2) := (blk_cell BK168.out 2).trans rfl
                                have hcz123_3 : wc.cell? ⟨gb168, 3, none⟩ = some (.int .i64 a6_3) := (blk_cell BK168.out 3).trans rfl
                                have hcz123_4 : wc.cell? ⟨gb168, 4, none⟩ = some (.int .i64 a6_4) := (blk_cell BK168.out 4).trans rfl
                                have hcz123_5 : wc.cell? ⟨gb168, 5, none⟩ = some (.int .i64 a6_5) := (blk_cell BK168.out 5).trans rfl
                                have hcz123_6 : wc.cell? ⟨gb168, 6, none⟩ = some (.int .i64 a6_6) := (blk_cell BK168.out 6).trans rfl
                                have hcz123_7 : wc.cell? ⟨gb168, 7, none⟩ = some (.string a6_7) := (blk_cell BK168.out 7).trans rfl
                                have hfz123_0 := blk_frozen BK168.out 0
                                have hfz123_1 := blk_frozen BK168.out 1
                                have hfz123_2 := blk_frozen BK168.out 2
                                have hfz123_3 := blk_frozen BK168.out 3
                                have hfz123_4 := blk_frozen BK168.out 4
                                have hfz123_5 := blk_frozen BK168.out 5
                                have hfz123_6 := blk_frozen BK168.out 6
                                have hfz123_7 := blk_frozen BK168.out 7
                                obtain ⟨Ao124, co124, eo124⟩ := Kd.N_slice HO_15.out
                                subst eo124
                                go_wp2_with (first | ((with_reducible refine gate_callee (f := 8) rfl ?_); refine goesL_ (some 158) rfl rfl Try.func8 (by kernel_rfl) rfl #[.int .i64 a0, .slice Ao124 x15_27.length co124] rfl (by (try simp only [List.map_toArray, List.map_cons, List.map_nil]); first | done | rfl | (simp only [List.length_drop, List.length_take]; rfl)) ?_; (with_reducible refine (fair_Fair.calls kj101 a0 _ _ x15_27 t211 _ ?side1 ?side2 A107.out).mono ?_); (case side1 => repeat (first | exact (Kd.N_reads' HO_15.out).2.2 | (with_reducible refine Kd.C_alloc ?_ _) | (with_reducible refine Kd.C_drewN ?_ _) | (with_reducible refine Kd.C_drew ?_))); (case side2 => exact (Kd.N_reads' HO_15.out).2.1); rintro e w125 ⟨rfl, hb⟩; refine ⟨_, rfl, ?_⟩; have n0_ := Aside0.mk (Kd.N_below (by (with_reducible repeat (first | apply Kd.N_alloc | apply Kd.N_drewN | apply Kd.N_drew)); exact HO_15.out) hb); have n1_ := Aside0.mk (blk_below (g := gb168) (o := .cells #[.int .i64 a6_0, .int .i64 a6_1, .int .i64 a6_2, .int .i64 a6_3, .int .i64 a6_4, .int .i64 a6_5, .int .i64 a6_6, .string a6_7] 24 (0, 0)) (by (with_reducible repeat (first | refine blk_drewN ?_ _ | refine blk_drew ?_ | refine blk_alloc ?_ _)); exact BK168.out) hb); have n2_ := Aside0.mk (below_step (by repeat (first | (with_reducible first | exact HB.out | apply below_alloc | apply pw_below_drewN | apply below_drew1 | refine below_set ?_ GE168.out) | exact HB.out)) hb); clear HO_15; clear BK168; clear HB; have HO_15 := n0_; have BK168 := n1_; have HB := n2_; clear n0_ n1_ n2_; (try clear hb); (try clear hb2); (try clear hk); (try clear hi)))
                                go_ret
                                exact ⟨by first | rfl | (simp [errW_none, errW_some] <;> rfl) | (simp [*, errW_none, errW_some] <;> rfl), by repeat (first | (with_reducible first | exact HB.out | apply below_alloc | apply pw_below_drewN | apply below_drew1 | refine below_set ?_ GE168.out) | exact HB.out)⟩
                            · replace c106 := Bool.eq_false_iff.mpr c106
                              subst c106
                              have H1 : ((fair_Fair.f kj101 a0 x15_27).bind fun t214 => (if (t214 == x18_27) = true then ((fair_Rounds.f a6_0 a6_1 a6_2 a6_3 a6_4 a6_5 a6_6 a6_7).bind fun t215 => (if t215 = (wrap64 ((wrap64 (x20_98 + 32)) + 10)) then ((broadsheetlaw27_known.f kj101).bind fun t216 => (some t216)) else (some false))) else (some false))) = some r := by rw [if_neg (show ¬ (false = true) by decide)] at H; exact H
                              clear H
                              have H := H1
                              clear H1
                              replace H := Option.bind_eq_some_iff.mp H
                              obtain ⟨t214, A1260, H⟩ := H
                              replace H : (if (t214 == x18_27) = true then ((fair_Rounds.f a6_0 a6_1 a6_2 a6_3 a6_4 a6_5 a6_6 a6_7).bind fun t215 => (if t215 = (wrap64 ((wrap64 (x20_98 + 32)) + 10)) then ((broadsheetlaw27_known.f kj101).bind fun t216 => (some t216)) else (some false))) else (some false)) = some r := H
                              have A126 := Aside0.mk A1260
                              clear A1260
                              by_cases c127 : (t214 == x18_27) = true
                              · rw [if_pos c127] at H
                                have c127b0 : (t214 == x18_27) = true := c127
                                (try (have c127b1 : decide (t214 = x18_27) = true := by simpa using c127))
                                (try (have c127b2 : (t214 == x18_27) = true := by simpa using c127))
                                clear c127
                                replace H := Option.bind_eq_some_iff.mp H
                                obtain ⟨t215, A1280, H⟩ := H
                                replace H : (if t215 = (wrap64 ((wrap64 (x20_98 + 32)) + 10)) then ((broadsheetlaw27_known.f kj101).bind fun t216 => (some t216)) else (some false)) = some r := H
                                have A128 := Aside0.mk A1280
                                clear A1280
                                by_cases c129 : t215 = (wrap64 ((wrap64 (x20_98 + 32)) + 10))
                                · rw [if_pos c129] at H
                                  have c129b0 : (t215 == (wrap64 ((wrap64 (x20_98 + 32)) + 10))) = true := beq_iff_eq.mpr c129
                                  have c129b1 : (t215 != (wrap64 ((wrap64 (x20_98 + 32)) + 10))) = false := bne_eq_false_iff_eq.mpr c129
                                  clear c129
                                  replace H := Option.bind_eq_some_iff.mp H
                                  obtain ⟨t216, A1300, H⟩ := H
                                  replace H : (some t216) = some r := H
                                  have A130 := Aside0.mk A1300
                                  clear A1300
                                  obtain rfl := Option.some.inj H
                                  obtain ⟨Ao131, co131, eo131⟩ := Kd.N_slice HO_15.out
                                  subst eo131
                                  go_wp2_with (first | ((with_reducible refine gate_callee (f := 8) rfl ?_); refine goesL_ (some 158) rfl rfl Try.func8 (by kernel_rfl) rfl #[.int .i64 a0, .slice Ao131 x15_27.length co131] rfl (by (try simp only [List.map_toArray, List.map_cons, List.map_nil]); first | done | rfl | (simp only [List.length_drop, List.length_take]; rfl)) ?_; (with_reducible refine (fair_Fair.calls kj101 a0 _ _ x15_27 t214 _ ?side1 ?side2 A126.out).mono ?_); (case side1 => repeat (first | exact (Kd.N_reads' HO_15.out).2.2 | (with_reducible refine Kd.C_alloc ?_ _) | (with_reducible refine Kd.C_drewN ?_ _) | (with_reducible refine Kd.C_drew ?_))); (case side2 => exact (Kd.N_reads' HO_15.out).2.1); rintro e w132 ⟨rfl, hb⟩; refine ⟨_, rfl, ?_⟩; have n0_ := Aside0.mk (Kd.N_below (by (with_reducible repeat (first | apply Kd.N_alloc | apply Kd.N_drewN | apply Kd.N_drew)); exact HO_15.out) hb); have n1_ := Aside0.mk (blk_below (g := gb168) (o := .cells #[.int .i64 a6_0, .int .i64 a6_1, .int .i64 a6_2, .int .i64 a6_3, .int .i64 a6_4, .int .i64 a6_5, .int .i64 a6_6, .string a6_7] 24 (0, 0)) (by (with_reducible repeat (first | refine blk_drewN ?_ _ | refine blk_drew ?_ | refine blk_alloc ?_ _)); exact BK168.out) hb); have n2_ := Aside0.mk (below_step (by repeat (first | (with_reducible first | exact HB.out | apply below_alloc | apply pw_below_drewN | apply below_drew1 | refine below_set ?_ GE168.out) | exact HB.out)) hb); clear HO_15; clear BK168; clear HB; have HO_15 := n0_; have BK168 := n1_; have HB := n2_; clear n0_ n1_ n2_; (try clear hb); (try clear hb2); (try clear hk); (try clear hi); have hcz133_0 : w132.cell? ⟨gb168, 0, none⟩ = some (.int .i64 a6_0) := (blk_cell BK168.out 0).trans rfl; have hcz133_1 : w132.cell? ⟨gb168, 1, none⟩ = some (.int .i64 a6_1) := (blk_cell BK168.out 1).trans rfl; have hcz133_2 : w132.cell? ⟨gb168, 2, none⟩ = some (.int .i64 a6_2) := (blk_cell BK168.out 2).trans rfl; have hcz133_3 : w132.cell? ⟨gb168, 3, none⟩ = some (.int .i64 a6_3) := (blk_cell BK168.out 3).trans rfl; have hcz133_4 : w132.cell? ⟨gb168, 4, none⟩ = some (.int .i64 a6_4) := (blk_cell BK168.out 4).trans rfl; have hcz133_5 : w132.cell? ⟨gb168, 5, none⟩ = some (.int .i64 a6_5) := (blk_cell BK168.out 5).trans rfl; have hcz133_6 : w132.cell? ⟨gb168, 6, none⟩ = some (.int .i64 a6_6) := (blk_cell BK168.out 6).trans rfl; have hcz133_7 : w132.cell? ⟨gb168, 7, none⟩ = some (.string a6_7) := (blk_cell BK168.out 7).trans rfl; have hfz133_0 := blk_frozen BK168.out 0; have hfz133_1 := blk_frozen BK168.out 1; have hfz133_2 := blk_frozen BK168.out 2; have hfz133_3 := blk_frozen BK168.out 3; have hfz133_4 := blk_frozen BK168.out 4; have hfz133_5 := blk_frozen BK168.out 5; have hfz133_6 := blk_frozen BK168.out 6; have hfz133_7 := blk_frozen BK168.out 7) | (go_at_call 9; (with_reducible refine (fair_Rounds.calls a6_0 a6_1 a6_2 a6_3 a6_4 a6_5 a6_6 a6_7 t215 _ A128.out).mono ?_); rintro e w134 ⟨rfl, hb⟩; have n0_ := Aside0.mk (Kd.N_below (by (with_reducible repeat (first | apply Kd.N_alloc | apply Kd.N_drewN | apply Kd.N_drew)); exact HO_15.out) hb); have n1_ := Aside0.mk (blk_below (g := gb168) (o := .cells #[.int .i64 a6_0, .int .i64 a6_1, .int .i64 a6_2, .int .i64 a6_3, .int .i64 a6_4, .int .i64 a6_5, .int .i64 a6_6, .string a6_7] 24 (0, 0)) (by (with_reducible repeat (first | refine blk_drewN ?_ _ | refine blk_drew ?_ | refine blk_alloc ?_ _)); exact BK168.out) hb); have n2_ := Aside0.mk (below_step (by repeat (first | (with_reducible first | exact HB.out | apply below_alloc | apply pw_below_drewN | apply below_drew1 | refine below_set ?_ GE168.out) | exact HB.out)) hb); clear HO_15; clear BK168; clear HB; have HO_15 := n0_; have BK168 := n1_; have HB := n2_; clear n0_ n1_ n2_; (try clear hb); (try clear hb2); (try clear hk); (try clear hi)) | (go_at_call 10; (with_reducible refine (broadsheetlaw27_known.calls kj101  t216 _ A130.out).mono ?_); rintro e w135 ⟨rfl, hb⟩; have n0_ := Aside0.mk (Kd.N_below (by (with_reducible repeat (first | apply Kd.N_alloc | apply Kd.N_drewN | apply Kd.N_drew)); exact HO_15.out) hb); have n1_ := Aside0.mk (blk_below (g := gb168) (o := .cells #[.int .i64 a6_0, .int .i64 a6_1, .int .i64 a6_2, .int .i64 a6_3, .int .i64 a6_4, .int .i64 a6_5, .int .i64 a6_6, .string a6_7] 24 (0, 0)) (by (with_reducible repeat (first | refine blk_drewN ?_ _ | refine blk_drew ?_ | refine blk_alloc ?_ _)); exact BK168.out) hb); have n2_ := Aside0.mk (below_step (by repeat (first | (with_reducible first | exact HB.out | apply below_alloc | apply pw_below_drewN | apply below_drew1 | refine below_set ?_ GE168.out) | exact HB.out)) hb); clear HO_15; clear BK168; clear HB; have HO_15 := n0_; have BK168 := n1_; have HB := n2_; clear n0_ n1_ n2_; (try clear hb); (try clear hb2); (try clear hk); (try clear hi)))
                                  go_ret
                                  exact ⟨by first | rfl | (simp [errW_none, errW_some] <;> rfl) | (simp [*, errW_none, errW_some] <;> rfl), by repeat (first | (with_reducible first | exact HB.out | apply below_alloc | apply pw_below_drewN | apply below_drew1 | refine below_set ?_ GE168.out) | exact HB.out)⟩
                                · rw [if_neg c129] at H
                                  have c129b0 : (t215 == (wrap64 ((wrap64 (x20_98 + 32)) + 10))) = false := beq_eq_false_iff_ne.mpr c129
                                  have c129b1 : (t215 != (wrap64 ((wrap64 (x20_98 + 32)) + 10))) = true := bne_iff_ne.mpr c129
                                  obtain rfl := Option.some.inj H
                                  obtain ⟨Ao136, co136, eo136⟩ := Kd.N_slice HO_15.out
                                  subst eo136
                                  go_wp2_with (first | ((with_reducible refine gate_callee (f := 8) rfl ?_); refine goesL_ (some 158) rfl rfl Try.func8 (by kernel_rfl) rfl #[.int .i64 a0, .slice Ao136 x15_27.length co136] rfl (by (try simp only [List.map_toArray, List.map_cons, List.map_nil]); first | done | rfl | (simp only [List.length_drop, List.length_take]; rfl)) ?_; (with_reducible refine (fair_Fair.calls kj101 a0 _ _ x15_27 t214 _ ?side1 ?side2 A126.out).mono ?_); (case side1 => repeat (first | exact (Kd.N_reads' HO_15.out).2.2 | (with_reducible refine Kd.C_alloc ?_ _) | (with_reducible refine Kd.C_drewN ?_ _) | (with_reducible refine Kd.C_drew ?_))); (case side2 => exact (Kd.N_reads' HO_15.out).2.1); rintro e w137 ⟨rfl, hb⟩; refine ⟨_, rfl, ?_⟩; have n0_ := Aside0.mk (Kd.N_below (by (with_reducible repeat (first | apply Kd.N_alloc | apply Kd.N_drewN | apply Kd.N_drew)); exact HO_15.out) hb); have n1_ := Aside0.mk (blk_below (g := gb168) (o := .cells #[.int .i64 a6_0, .int .i64 a6_1, .int .i64 a6_2, .int .i64 a6_3, .int .i64 a6_4, .int .i64 a6_5, .int .i64 a6_6, .string a6_7] 24 (0, 0)) (by (with_reducible repeat (first | refine blk_drewN ?_ _ | refine blk_drew ?_ | refine blk_alloc ?_ _)); exact BK168.out) hb); have n2_ := Aside0.mk (below_step (by repeat (first | (with_reducible first | exact HB.out | apply below_alloc | apply pw_below_drewN | apply below_drew1 | refine below_set ?_ GE168.out) | exact HB.out)) hb); clear HO_15; clear BK168; clear HB; have HO_15 := n0_; have BK168 := n1_; have HB := n2_; clear n0_ n1_ n2_; (try clear hb); (try clear hb2); (try clear hk); (try clear hi); have hcz138_0 : w137.cell? ⟨gb168, 0, none⟩ = some (.int .i64 a6_0) := (blk_cell BK168.out 0).trans rfl; have hcz138_1 : w137.cell? ⟨gb168, 1, none⟩ = some (.int .i64 a6_1) := (blk_cell BK168.out 1).trans rfl; have hcz138_2 : w137.cell? ⟨gb168, 2, none⟩ = some (.int .i64 a6_2) := (blk_cell BK168.out 2).trans rfl; have hcz138_3 : w137.cell? ⟨gb168, 3, none⟩ = some (.int .i64 a6_3) := (blk_cell BK168.out 3).trans rfl; have hcz138_4 : w137.cell? ⟨gb168, 4, none⟩ = some (.int .i64 a6_4) := (blk_cell BK168.out 4).trans rfl; have hcz138_5 : w137.cell? ⟨gb168, 5, none⟩ = some (.int .i64 a6_5) := (blk_cell BK168.out 5).trans rfl; have hcz138_6 : w137.cell? ⟨gb168, 6, none⟩ = some (.int .i64 a6_6) := (blk_cell BK168.out 6).trans rfl; have hcz138_7 : w137.cell? ⟨gb168, 7, none⟩ = some (.string a6_7) := (blk_cell BK168.out 7).trans rfl; have hfz138_0 := blk_frozen BK168.out 0; have hfz138_1 := blk_frozen BK168.out 1; have hfz138_2 := blk_frozen BK168.out 2; have hfz138_3 := blk_frozen BK168.out 3; have hfz138_4 := blk_frozen BK168.out 4; have hfz138_5 := blk_frozen BK168.out 5; have hfz138_6 := blk_frozen BK168.out 6; have hfz138_7 := blk_frozen BK168.out 7) | (go_at_call 9; (with_reducible refine (fair_Rounds.calls a6_0 a6_1 a6_2 a6_3 a6_4 a6_5 a6_6 a6_7 t215 _ A128.out).mono ?_); rintro e w139 ⟨rfl, hb⟩; have n0_ := Aside0.mk (Kd.N_below (by (with_reducible repeat (first | apply Kd.N_alloc | apply Kd.N_drewN | apply Kd.N_drew)); exact HO_15.out) hb); have n1_ := Aside0.mk (blk_below (g := gb168) (o := .cells #[.int .i64 a6_0, .int .i64 a6_1, .int .i64 a6_2, .int .i64 a6_3, .int .i64 a6_4, .int .i64 a6_5, .int .i64 a6_6, .string a6_7] 24 (0, 0)) (by (with_reducible repeat (first | refine blk_drewN ?_ _ | refine blk_drew ?_ | refine blk_alloc ?_ _)); exact BK168.out) hb); have n2_ := Aside0.mk (below_step (by repeat (first | (with_reducible first | exact HB.out | apply below_alloc | apply pw_below_drewN | apply below_drew1 | refine below_set ?_ GE168.out) | exact HB.out)) hb); clear HO_15; clear BK168; clear HB; have HO_15 := n0_; have BK168 := n1_; have HB := n2_; clear n0_ n1_ n2_; (try clear hb); (try clear hb2); (try clear hk); (try clear hi)))
                                  go_ret
                                  exact ⟨by first | rfl | (simp [errW_none, errW_some] <;> rfl) | (simp [*, errW_none, errW_some] <;> rfl), by repeat (first | (with_reducible first | exact HB.out | apply below_alloc | apply pw_below_drewN | apply below_drew1 | refine below_set ?_ GE168.out) | exact HB.out)⟩
                              · rw [if_neg c127] at H
                                have c127b0 : (t214 == x18_27) = false := by simpa using c127
                                (try (have c127b1 : decide (t214 = x18_27) = false := by simpa using c127))
                                (try (have c127b2 : (t214 == x18_27) = false := by simpa using c127))
                                (try (have c127b3 : ¬ (t214 = x18_27) := by simpa using c127))
                                clear c127
                                obtain rfl := Option.some.inj H
                                obtain ⟨Ao140, co140, eo140⟩ := Kd.N_slice HO_15.out
                                subst eo140
                                go_wp2_with (first | ((with_reducible refine gate_callee (f := 8) rfl ?_); refine goesL_ (some 158) rfl rfl Try.func8 (by kernel_rfl) rfl #[.int .i64 a0, .slice Ao140 x15_27.length co140] rfl (by (try simp only [List.map_toArray, List.map_cons, List.map_nil]); first | done | rfl | (simp only [List.length_drop, List.length_take]; rfl)) ?_; (with_reducible refine (fair_Fair.calls kj101 a0 _ _ x15_27 t214 _ ?side1 ?side2 A126.out).mono ?_); (case side1 => repeat (first | exact (Kd.N_reads' HO_15.out).2.2 | (with_reducible refine Kd.C_alloc ?_ _) | (with_reducible refine Kd.C_drewN ?_ _) | (with_reducible refine Kd.C_drew ?_))); (case side2 => exact (Kd.N_reads' HO_15.out).2.1); rintro e w141 ⟨rfl, hb⟩; refine ⟨_, rfl, ?_⟩; have n0_ := Aside0.mk (Kd.N_below (by (with_reducible repeat (first | apply Kd.N_alloc | apply Kd.N_drewN | apply Kd.N_drew)); exact HO_15.out) hb); have n1_ := Aside0.mk (blk_below (g := gb168) (o := .cells #[.int .i64 a6_0, .int .i64 a6_1, .int .i64 a6_2, .int .i64 a6_3, .int .i64 a6_4, .int .i64 a6_5, .int .i64 a6_6, .string a6_7] 24 (0, 0)) (by (with_reducible repeat (first | refine blk_drewN ?_ _ | refine blk_drew ?_ | refine blk_alloc ?_ _)); exact BK168.out) hb); have n2_ := Aside0.mk (below_step (by repeat (first | (with_reducible first | exact HB.out | apply below_alloc | apply pw_below_drewN | apply below_drew1 | refine below_set ?_ GE168.out) | exact HB.out)) hb); clear HO_15; clear BK168; clear HB; have HO_15 := n0_; have BK168 := n1_; have HB := n2_; clear n0_ n1_ n2_; (try clear hb); (try clear hb2); (try clear hk); (try clear hi)))
                                go_ret
                                exact ⟨by first | rfl | (simp [errW_none, errW_some] <;> rfl) | (simp [*, errW_none, errW_some] <;> rfl), by repeat (first | (with_reducible first | exact HB.out | apply below_alloc | apply pw_below_drewN | apply below_drew1 | refine below_set ?_ GE168.out) | exact HB.out)⟩

end Go.Proofs.Ytnjdimemiojoaaa.Ft
