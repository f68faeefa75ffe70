/- The law AgendaOrders. Conditions: as each theorem states them. -/
import Derived.Test.YtlccileccmiomaaLawC
namespace Go.Proofs.Ytlccileccmiomaa
open Go.RowKit
set_option linter.unusedVariables false
set_option linter.unusedSimpArgs false

/-- Entry i of the law's agenda. -/
def eO (xs : List Int) (i : Nat) : Ent := ⟨withinZ (xs.getD i 0) 0 1000, i, i⟩
theorem AgX.srt {w : World} {base b : Nat} {m : List Ent} {ord : Int} (h : AgX w base b m ord) : m.Pairwise Ent.bef := by
  obtain ⟨v, h⟩ := h
  exact h.srt.1
set_option maxRecDepth 100000 in
set_option maxHeartbeats 4000000 in
theorem orders_any (A : Option Addr) (c : Nat) (xs : List Int) (w : World) (hx : ArgInts w A xs) :
    Calls Try.prog 3 #[.slice A xs.length c] w fun e w' => e = .returned (.bool true) ∧ Below w.heap.size w w' := by
  have HX := Lib.hid hx
  clear hx
  obtain ⟨N, hN⟩ : ∃ N : Nat, N = min xs.length 100 := ⟨_, rfl⟩
  have hN1 : N ≤ xs.length := by omega
  have hN2 : N ≤ 100 := by omega
  have HNM := Lib.hid hN
  clear hN
  go_enter Try.func3, Try.ntmps3
  go_wp2_with fail
  refine (new_x w).mono ?_
  rintro e w1 ⟨rfl, h1, h2⟩
  have H1 := Lib.hid (And.intro h1 h2)
  clear h1 h2
  obtain hl | hl : 100 < xs.length ∨ xs.length ≤ 100 := by omega
  all_goals
    go_wp2
    first
      | rw [show Value.int .i64 100 = Value.int .i64 (N : Int) from by rw [show (100 : Int) = (N : Int) from by have := HNM.out; omega]]
      | rw [show Value.int .i64 (xs.length : Int) = Value.int .i64 (N : Int) from by rw [show (xs.length : Int) = (N : Int) from by have := HNM.out; omega]]
    try rw [show decide ((100 : Int) < (xs.length : Int)) = true from decide_eq_true (by omega)]
    try rw [show decide ((100 : Int) < (xs.length : Int)) = false from decide_eq_false (by omega)]
    go_loopw [5] (fun v5 wr => ∃ k : Nat, v5 = .int .i64 k ∧ k ≤ N ∧ Hid (Below w.heap.size w wr ∧ ∃ m, AgX wr w.heap.size w.heap.size m k ∧ m.length = k ∧ ∀ e ∈ m, ∃ i, i < k ∧ e = eO xs i)) (fun v _ => N - (intOf v).toNat)
    case atStart => exact ⟨0, rfl, Nat.zero_le _, Lib.hid ⟨H1.out.2, [], H1.out.1, rfl, fun e he => by cases he⟩⟩
    case round =>
      obtain ⟨k, rfl, hk, HI⟩ := hrel
      by_cases hlt : k < N
      · obtain ⟨g, o, rfl, hg, hcx⟩ := HX.out k (by omega)
        have p0 := (HI.out.1.cell (p := ⟨g, o + k, none⟩) hg).trans (hcx.trans (by rw [List.getD_eq_getElem?_getD, List.getElem?_eq_getElem (show k < xs.length by omega)]; rfl : _ = some (Value.int .i64 (xs.getD k 0))))
        clear hcx
        obtain ⟨m, hm⟩ := HI.out.2
        have HM := Lib.hid hm
        clear hm
        have HE : Hid (∀ T : Int, withinZ (xs.getD k 0) 0 1000 = T → eO xs k = ⟨T, k, k⟩) := Lib.hid (by rintro T rfl; rfl)
        generalize xs.getD k 0 = x at *
        go_wp2_with fail
        refine (within_any x 0 1000 (by decide) (by decide) (by decide) _).mono ?_
        rintro e w' ⟨rfl, rfl⟩
        generalize withinZ x 0 1000 = T at *
        go_wp2_with fail
        refine (add_x w.heap.size w.heap.size m k T k (by have := HM.out.2.1; omega) (by omega) _ HI.out.1.size HM.out.1).mono ?_
        rintro e w2 ⟨rfl, h1, h2⟩
        have HR := Lib.hid (And.intro h1 (HI.out.1.trans h2))
        clear h1 h2 p0
        go_wp2
        go_roundw
        case rel => exact ⟨k + 1, by go_num, by omega, Lib.hid ⟨HR.out.2, _, HR.out.1, by rw [insE_length, HM.out.2.1], insE_all ⟨k, by omega, (HE.out T rfl).symm⟩ (fun e he => by obtain ⟨i, hi, h⟩ := HM.out.2.2 e he; exact ⟨i, by omega, h⟩)⟩⟩
        case measure => simp [intOf]; omega
      · obtain rfl : k = N := by omega
        clear hlt hk
        have HS : Hid (∃ m, AgX wr w.heap.size w.heap.size m k ∧ m.length = k ∧ ∀ e ∈ m, ∃ i, i < k ∧ e = eO xs i) := Lib.hid HI.out.2
        go_wp2
        go_loopw [6, 7, 8] (fun v6 v7 v8 wq => ∃ (la wo : Int) (j : Nat), v6 = .int .i64 la ∧ v7 = .int .i64 wo ∧ v8 = .int .i64 j ∧ j ≤ k ∧ Hid (Below w.heap.size w wq ∧ ∃ m, AgX wq w.heap.size w.heap.size m k ∧ m.length = k - j ∧ (∀ e ∈ m, ∃ i, i < k ∧ e = eO xs i) ∧ ∀ e ∈ m, la < e.tm ∨ (la = e.tm ∧ wo < e.wh))) (fun _ _ v _ => k - (intOf v).toNat)
        case atStart =>
          obtain ⟨m, h1, h2, h3⟩ := HS.out
          exact ⟨-1, -1, 0, rfl, rfl, rfl, Nat.zero_le _, Lib.hid ⟨HI.out.1, m, h1, h2, h3, fun e he => .inl (by obtain ⟨i, _, rfl⟩ := h3 e he; have := (withinZ_ge (xs.getD i 0) 0 1000 (by decide)).1; show (-1 : Int) < withinZ (xs.getD i 0) 0 1000; omega)⟩⟩
        case round =>
          obtain ⟨la, wo, j, rfl, rfl, rfl, hj, HJ⟩ := hrel
          by_cases hlj : j < k
          · obtain ⟨h1, m, h2, h3, h4, h5⟩ := HJ.out
            cases m with
            | nil => exact absurd h3 (by simp; omega)
            | cons x m =>
              obtain ⟨i, hi, rfl⟩ := h4 x (List.mem_cons_self ..)
              obtain ⟨g, o, rfl, hg, hcg⟩ := HX.out i (by omega)
              have HQ : ∃ T x : Int, eO xs i = ⟨T, i, i⟩ ∧ 0 ≤ T ∧ T ≤ 1000 ∧ w.cell? ⟨g, o + i, none⟩ = some (.int .i64 x) ∧ Hid (∀ wz, Calls Try.prog 11 #[.int .i64 x, .int .i64 0, .int .i64 1000] wz fun e w' => e = .returned (.int .i64 T) ∧ wz = w') :=
                ⟨withinZ (xs.getD i 0) 0 1000, xs.getD i 0, rfl, (withinZ_ge _ _ _ (by decide)).1, (withinZ_ge _ _ _ (by decide)).2, hcg.trans (by rw [List.getD_eq_getElem?_getD, List.getElem?_eq_getElem (show i < xs.length by omega)]; rfl), Lib.hid (fun wz => within_any _ 0 1000 (by decide) (by decide) (by decide) wz)⟩
              obtain ⟨T, x, hE, hT1, hT2, hcx, HV⟩ := HQ
              have HLE : Hid ((eO xs i :: m).length = k - j ∧ ∀ e ∈ m, ∃ q, q < k ∧ e = eO xs q) := Lib.hid ⟨h3, fun e he => h4 e (List.mem_cons_of_mem _ he)⟩
              have HR : Hid (∀ e ∈ m, T < e.tm ∨ (T = e.tm ∧ (i : Int) < e.wh)) := Lib.hid (by
                intro e he
                have hb := (List.pairwise_cons.1 h2.srt).1 e he
                obtain ⟨q, _, rfl⟩ := h4 e (List.mem_cons_of_mem _ he)
                rw [hE] at hb
                exact hb)
              have hlw := h5 _ (List.mem_cons_self ..)
              rw [hE] at h2 hlw HLE
              have HLW : Hid (la < T ∨ (la = T ∧ wo < i)) := Lib.hid hlw
              have HD := Lib.hid (And.intro h1 h2)
              have HN := Lib.hid (next_x w.heap.size w.heap.size ⟨T, i, i⟩ m k _ h2)
              have p0 := (h1.cell (p := ⟨g, o + i, none⟩) hg).trans hcx
              have HCX := Lib.hid hcx
              clear h1 h2 h3 h4 h5 hE hlw hcx hcg
              go_wp2_with fail
              refine HN.out.mono ?_
              rintro e w3 ⟨rfl, h5⟩
              have HDU := Lib.hid (due_x w.heap.size w.heap.size ⟨T, i, i⟩ m k 1000 (by have := HLE.out.1; simp at this; omega) hT2 w3 (Nat.le_trans HD.out.1.size h5.size) (HD.out.2.cut h5))
              have HK1 := Lib.hid (HD.out.1.trans (h5.mono HD.out.1.size))
              clear h5 p0
              go_wp2_with fail
              refine HDU.out.mono ?_
              rintro e w4 ⟨rfl, h5, h6⟩
              have HK2 := Lib.hid (And.intro (HK1.out.trans h6) h5)
              clear h5 h6 HN HDU
              have p0 := (HK2.out.1.cell (p := ⟨g, o + i, none⟩) hg).trans HCX.out
              have hwn : (i : Int) < (k : Int) := by omega
              rcases HLW.out with hlw | ⟨hlw, hlw2⟩
              · have hne : (T == la) = false := by rw [beq_eq_false_iff_ne]; omega
                go_wp2_with fail
                refine (HV.out _).mono ?_
                rintro e w' ⟨rfl, rfl⟩
                go_wp2
                go_roundw
                case rel => exact ⟨T, i, j + 1, rfl, rfl, by go_num, by omega, Lib.hid ⟨HK2.out.1, m, HK2.out.2, by have := HLE.out.1; simp at this; omega, HLE.out.2, HR.out⟩⟩
                case measure => simp [intOf]; omega
              · subst hlw
                have hne : (la == la) = true := beq_self_eq_true _
                go_wp2_with fail
                refine (HV.out _).mono ?_
                rintro e w' ⟨rfl, rfl⟩
                go_wp2
                go_roundw
                case rel => exact ⟨la, i, j + 1, rfl, rfl, by go_num, by omega, Lib.hid ⟨HK2.out.1, m, HK2.out.2, by have := HLE.out.1; simp at this; omega, HLE.out.2, HR.out⟩⟩
                case measure => simp [intOf]; omega
          · obtain rfl : j = k := by omega
            obtain ⟨h1, m, h2, h3, h4, h5⟩ := HJ.out
            have hm0 : m = [] := List.length_eq_zero_iff.1 (by omega)
            subst hm0
            have HK := Lib.hid (And.intro h1 h2)
            clear h1 h2 h3 h4 h5
            go_wp2_with fail
            refine (due_0 w.heap.size w.heap.size j 1000 _ HK.out.2).mono ?_
            rintro e w3 ⟨rfl, h5⟩
            have HK2 := Lib.hid (And.intro (HK.out.1.trans (h5.mono HK.out.1.size)) (HK.out.2.cut h5))
            clear h5
            go_wp2_with fail
            refine (len_x w.heap.size w.heap.size [] j _ HK2.out.2).mono ?_
            rintro e w4 ⟨rfl, rfl⟩
            have hl0 : (([] : List Ent).length : Int) = 0 := rfl
            rw [hl0]
            go_wp2_with fail
            refine (known_any _).mono ?_
            rintro e w4 ⟨rfl, h5⟩
            have HK3 := Lib.hid (HK2.out.1.trans (h5.mono HK2.out.1.size))
            clear h5
            go_wp2
            go_ret
            exact ⟨rfl, HK3.out⟩
end Go.Proofs.Ytlccileccmiomaa
