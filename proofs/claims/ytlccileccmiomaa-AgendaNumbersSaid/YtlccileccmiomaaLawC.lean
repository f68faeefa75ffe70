/- The law AgendaNexts. Conditions: as each theorem states them. -/
import Derived.Test.YtlccileccmiomaaLawB
import Derived.OwnWalk
namespace Go.Proofs.Ytlccileccmiomaa
open Go.RowKit
set_option linter.unusedVariables false
set_option linter.unusedSimpArgs false

theorem insE_length (x : Ent) (m : List Ent) : (insE x m).length = m.length + 1 := by rw [(insE_perm x m).length_eq]; simp
theorem insE_all {P : Ent → Prop} {x : Ent} {m : List Ent} (hx : P x) (hm : ∀ e ∈ m, P e) : ∀ e ∈ insE x m, P e := fun e he => by
  rcases insE_mem he with rfl | h
  · exact hx
  · exact hm e h
set_option maxRecDepth 100000 in
set_option maxHeartbeats 4000000 in
theorem nexts_any (A : Option Addr) (c : Nat) (xs : List Int) (w : World) (hx : ArgInts w A xs) :
    Calls Try.prog 5 #[.slice A xs.length c] w fun e w' => e = .returned (.bool true) ∧ Below w.heap.size w w' := by
  have HX := Lib.hid hx
  clear hx
  go_enter Try.func5, Try.ntmps5
  go_wp2_with fail
  refine (new_x w).mono ?_
  rintro e w1 ⟨rfl, h1, h2⟩
  have H1 := Lib.hid (And.intro h1 h2)
  clear h1 h2
  go_wp2_with fail
  go_loopw [4, 5] (fun v4 v5 wr => ∃ k : Nat, v4 = .int .i64 k ∧ v5 = .int .i64 k ∧ k ≤ xs.length ∧ k ≤ 40 ∧ Hid (Below w.heap.size w wr ∧ ∃ m, AgX wr w.heap.size w.heap.size m k ∧ m.length = k ∧ ∀ e ∈ m, 0 ≤ e.tm ∧ e.tm ≤ 100)) (fun _ v _ => 40 - (intOf v).toNat)
  case atStart => exact ⟨0, rfl, rfl, Nat.zero_le _, Nat.zero_le _, Lib.hid ⟨H1.out.2, [], H1.out.1, rfl, fun e he => by cases he⟩⟩
  case round =>
    obtain ⟨k, rfl, rfl, hk, hk2, HI⟩ := hrel
    by_cases hlt : k < xs.length ∧ k < 40
    · obtain ⟨hlt, hlt2⟩ := hlt
      obtain ⟨g, o, rfl, hg, hcx⟩ := HX.out k hlt
      have p0 := (HI.out.1.cell (p := ⟨g, o + k, none⟩) hg).trans hcx
      clear hcx
      generalize xs[k] = x at *
      obtain ⟨m, hm⟩ := HI.out.2
      have HM := Lib.hid hm
      clear hm
      go_wp2
      go_region_with (first | (go_at_call 11; refine (within_any x 0 100 (by decide) (by decide) (by decide) _).mono ?_; rintro e w' ⟨rfl, rfl⟩) | (go_at_call 10; refine (add_x w.heap.size w.heap.size m k _ x (by have := HM.out.2.1; omega) (by omega) wr.drew HI.out.1.size HM.out.1.drew).mono ?_; rintro e w2 ⟨rfl, h1, h2⟩))
      all_goals
        have HR := Lib.hid (And.intro h1 ((below_drewN HI.out.1 1).trans h2))
        clear h1 h2 p0
        go_wp2
        go_roundw
      all_goals first
        | exact ⟨k + 1, by go_num, by go_num, by omega, by omega, Lib.hid ⟨HR.out.2, _, HR.out.1, by rw [insE_length, HM.out.2.1], insE_all (withinZ_ge x 0 100 (by decide)) HM.out.2.2⟩⟩
        | (simp [intOf]; omega)
    · obtain hlt | hlt : ¬ k < xs.length ∨ (k < xs.length ∧ ¬ k < 40) := by omega
      all_goals
        go_wp2
        go_loopw [4] (fun v wq => ∃ j : Nat, v = .int .i64 j ∧ j ≤ 40 ∧ Hid (Below w.heap.size w wq ∧ ∃ m ord, AgX wq w.heap.size w.heap.size m ord ∧ m.length = j ∧ ∀ e ∈ m, 0 ≤ e.tm ∧ e.tm ≤ 100)) (fun v _ => (intOf v).toNat)
        case atStart => 
          obtain ⟨h1, m, h2, h3, h4⟩ := HI.out
          exact ⟨k, rfl, hk2, Lib.hid ⟨h1, m, _, h2, h3, h4⟩⟩
        case round =>
          obtain ⟨j, rfl, hj, HJ⟩ := hrel
          obtain ⟨h1, m, ord, h2, h3, h4⟩ := HJ.out
          cases m with
          | nil =>
            have hj0 : j = 0 := h3.symm
            subst hj0
            have HK := Lib.hid (And.intro h1 h2)
            clear h1 h2 h3 h4
            go_wp2_with fail
            refine (next_0 w.heap.size w.heap.size ord _ HK.out.2).mono ?_
            rintro e w3 ⟨rfl, h5⟩
            have HK2 := Lib.hid (HK.out.1.trans (h5.mono HK.out.1.size))
            clear h5
            go_wp2_with fail
            refine (known_any _).mono ?_
            rintro e w4 ⟨rfl, h5⟩
            have HK3 := Lib.hid (HK2.out.trans (h5.mono HK2.out.size))
            clear h5
            go_wp2
            go_ret
            exact ⟨rfl, HK3.out⟩
          | cons x m =>
            have hx1 := (h4 x (List.mem_cons_self ..)).1
            have hx2 := (h4 x (List.mem_cons_self ..)).2
            obtain ⟨j, rfl⟩ : ∃ i, j = i + 1 := ⟨m.length, by simp at h3; omega⟩
            have HK := Lib.hid (And.intro h1 (And.intro h2 (And.intro h3 h4)))
            clear h1 h2 h3 h4
            go_wp2_with fail
            refine (next_x w.heap.size w.heap.size x m ord _ HK.out.2.1).mono ?_
            rintro e w3 ⟨rfl, h5⟩
            have HK1 := Lib.hid (And.intro (HK.out.1.trans (h5.mono HK.out.1.size)) (HK.out.2.1.cut h5))
            clear h5
            go_wp2_with fail
            refine (len_x w.heap.size w.heap.size (x :: m) ord _ HK1.out.2).mono ?_
            rintro e w4 ⟨rfl, rfl⟩
            have hl : ((x :: m).length : Int) = ((j + 1 : Nat) : Int) := by rw [HK.out.2.2.1]
            rw [hl]
            go_wp2_with fail
            refine (due_e w.heap.size w.heap.size x m ord (x.tm - 1) (by omega) _ HK1.out.2).mono ?_
            rintro e w4 ⟨rfl, h5⟩
            have HK2 := Lib.hid (And.intro (HK1.out.1.trans (h5.mono HK1.out.1.size)) (HK1.out.2.cut h5))
            clear h5
            go_wp2_with fail
            refine (due_x w.heap.size w.heap.size x m ord x.tm (by have := HK.out.2.2.1; simp at this; omega) (by omega) _ HK2.out.1.size HK2.out.2).mono ?_
            rintro e w5 ⟨rfl, h5, h6⟩
            have HK3 := Lib.hid (And.intro (HK2.out.1.trans h6) h5)
            clear h5 h6
            go_wp2
            go_roundw
            case rel => exact ⟨j, by go_num, by omega, Lib.hid ⟨HK3.out.1, m, ord, HK3.out.2, by have := HK.out.2.2.1; simp at this; omega, fun e he => HK.out.2.2.2 e (List.mem_cons_of_mem _ he)⟩⟩
            case measure => simp [intOf]
end Go.Proofs.Ytlccileccmiomaa
