/- The law's own function play. Conditions: as each theorem states them. -/
import Derived.Test.YtlccileccmiomaaLawI
import Derived.OwnWalk
import Derived.Deep.Cut
import Derived.Deep.CutBlock
import Derived.Deep.CutRange
import Derived.Deep.DeepCutAuto
namespace Go.Proofs.Ytlccileccmiomaa
open Go.RowKit
set_option linter.unusedVariables false
set_option linter.unusedSimpArgs false

/-- The slice at A shows the calls l. -/
def ArgAsks (w : World) (A : Option Addr) (l : List (Int × Int × Int)) : Prop := ∀ k (h : k < l.length), ∃ g o, A = some ⟨g, o, none⟩ ∧ g < w.heap.size ∧ w.cell? ⟨g, o + k * 3, none⟩ = some (.int .i64 l[k].1) ∧ w.cell? ⟨g, o + k * 3 + 1, none⟩ = some (.int .i64 l[k].2.1) ∧ w.cell? ⟨g, o + k * 3 + 2, none⟩ = some (.int .i64 l[k].2.2)
theorem own2_drewN {w : World} {base : Nat} {v : Value} {P : List (Int × Int)} (h : Own2 w base v P) (n : Nat) : Own2 (w.drewN n) base v P := h
set_option maxRecDepth 100000 in
set_option maxHeartbeats 8000000 in
theorem play_any (A : Option Addr) (c : Nat) (l : List (Int × Int × Int)) (w : World) (hx : ArgAsks w A l) :
    Calls Try.prog 19 #[.slice A l.length c] w fun e w' => e = .returned (.bool true) ∧ Below w.heap.size w w' := by
  have HX := Lib.hid hx
  clear hx
  obtain ⟨i0, hi0, hz0, hz1, hz2⟩ := info_parts info_int
  obtain ⟨j0, hj0, hjz0, hjz1, hjz2⟩ := info_parts info_pair
  go_enter Try.func19, Try.ntmps19
  go_wp2_with fail
  refine (new_m w).mono ?_
  rintro e w1 ⟨rfl, h1, h2⟩
  have H1 := Lib.hid (And.intro h1 h2)
  clear h1 h2
  go_wp2_with fail
  go_loopw [4, 5] (fun v4 v5 wr => ∃ (k : Nat) (m : List Ent) (ord : Int), v5 = .int .i64 k ∧ k ≤ l.length ∧ k ≤ 80 ∧ Hid (Below w.heap.size w wr ∧ Mx wr w.heap.size w.heap.size m ord v4 (m.map pr) [] ∧ m.length ≤ k ∧ 0 ≤ ord ∧ ord ≤ k)) (fun _ v _ => 80 - (intOf v).toNat)
  case atStart => exact ⟨0, [], 0, rfl, Nat.zero_le _, Nat.zero_le _, Lib.hid ⟨H1.out.2, H1.out.1, Nat.zero_le _, Int.le_refl _, Int.le_refl _⟩⟩
  case round =>
    obtain ⟨k, m, ord, rfl, hk, hk2, HI⟩ := hrel
    by_cases hlt : k < l.length ∧ k < 80
    · obtain ⟨hlt, hlt2⟩ := hlt
      obtain ⟨g, o, rfl, hg, q0, q1, q2⟩ := HX.out k hlt
      have p0 := (HI.out.1.cell (p := ⟨g, o + k * 3, none⟩) hg).trans q0
      have p1 := (HI.out.1.cell (p := ⟨g, o + k * 3 + 1, none⟩) hg).trans q1
      have p2 := (HI.out.1.cell (p := ⟨g, o + k * 3 + 2, none⟩) hg).trans q2
      clear q0 q1 q2
      generalize l[k].1 = xk at *
      generalize l[k].2.1 = xa at *
      generalize l[k].2.2 = xw at *
      have HB := Lib.hid (And.intro (HI.out.1.alloc HI.out.1.size (.cells #[.int .i64 xk, .int .i64 xa, .int .i64 xw] 40)) (HI.out.2.1.box 40 [.int .i64 xk, .int .i64 xa, .int .i64 xw]))
      go_upto_block 2 with (fail)
      go_cut [4] (fun s4 wc => ∃ (m : List Ent) (ord : Int), Hid (Below w.heap.size w wc ∧ Mx wc w.heap.size w.heap.size m ord s4 (m.map pr) [] ∧ m.length ≤ k + 1 ∧ 0 ≤ ord ∧ ord ≤ k + 1))
      case first =>
        generalize wr.alloc (.cells #[.int .i64 xk, .int .i64 xa, .int .i64 xw] 40) = wb at *
        generalize wr.heap.size = B at *
        have HBX := Lib.hid (HB.out.2.aside _ (List.mem_cons_self ..))
        have x1 := HBX.out.cell 1 _ rfl
        have x2 := HBX.out.cell 2 _ rfl
        clear p0 p1 p2
        by_cases hk1 : xk = 1
        · have hkb : (xk == 1) = true := beq_iff_eq.2 hk1
          have HK1 := Lib.hid hk1
          clear hk1
          go_wp2_with fail
          refine (add_m w.heap.size w.heap.size m ord xa xw _ _ _ (by have := HI.out.2.2; omega) (by have := HI.out.2.2; omega) _ HB.out.1.size HB.out.2).mono ?_
          rintro e w3 ⟨rfl, h1, h2⟩
          have HB2 := Lib.hid (And.intro (HB.out.1.trans h2) h1)
          clear h1 h2 x1 x2
          have HBY := Lib.hid (HB2.out.2.aside _ (List.mem_cons_self ..))
          have x1 := HBY.out.cell 1 _ rfl
          have x2 := HBY.out.cell 2 _ rfl
          go_wp2_with fail
          refine (put_m w.heap.size w.heap.size _ _ xa xw _ _ _ (by rw [List.length_map]; have := HI.out.2.2; omega) (pr_sorted HI.out.2.1.fst.inOrder) _ HB2.out.2).mono ?_
          rintro e w4 ⟨v', rfl, h1, h2⟩
          have HB3 := Lib.hid (And.intro (HB2.out.1.trans (h2.mono HB2.out.1.size)) h1.fewer)
          clear h1 h2 x1 x2
          go_wp2
          go_meet
          case rel => exact ⟨_, _, Lib.hid ⟨HB3.out.1, by rw [map_insE]; exact HB3.out.2, by rw [insE_length]; have := HI.out.2.2; omega, by have := HI.out.2.2; omega, by have := HI.out.2.2; omega⟩⟩
        · have hkb : (xk == 1) = false := beq_eq_false_iff_ne.2 hk1
          have HK1 := Lib.hid hk1
          clear hk1
          by_cases hk2' : xk = 2
          · have hkb2 : (xk == 2) = true := beq_iff_eq.2 hk2'
            have HK2 := Lib.hid hk2'
            clear hk2'
            cases m with
            | nil =>
              obtain ⟨A4, c4, rfl⟩ := HB.out.2.form
              go_wp2_with fail
              refine (due_0 w.heap.size w.heap.size ord xa _ HB.out.2.fst).mono ?_
              rintro e w3 ⟨rfl, h5⟩
              have HB3 := Lib.hid (And.intro (HB.out.1.trans (h5.mono HB.out.1.size)) (HB.out.2.cut h5).fewer)
              clear h5 x1 x2
              go_wp2
              go_quiet (fail)
              go_wp2
              go_meet
              case rel => exact ⟨[], ord, Lib.hid ⟨below_drewN HB3.out.1 _, HB3.out.2.cut (below_drewN (Below.refl _ _) _), Nat.zero_le _, by have := HI.out.2.2; omega, by have := HI.out.2.2; omega⟩⟩
            | cons x m =>
              obtain ⟨g4, o4, c4, rfl, hc4, hg4, hp4⟩ := HB.out.2.place (by simp)
              by_cases hxt : x.tm ≤ xa
              · go_wp2_with fail
                refine (due_m w.heap.size w.heap.size x m ord xa _ _ _ (by have := HI.out.2.2.1; simp at this; omega) hxt _ HB.out.1.size HB.out.2).mono ?_
                rintro e w3 ⟨rfl, h1, h2⟩
                have HB3 := Lib.hid (And.intro (HB.out.1.trans h2) h1)
                clear h1 h2 x1 x2 hp4
                have HBY := Lib.hid (HB3.out.2.aside _ (List.mem_cons_self ..))
                have x1 := HBY.out.cell 1 _ rfl
                have x2 := HBY.out.cell 2 _ rfl
                have q4 := (HB3.out.2.at' (by simp)) 0 (by simp)
                have q0 := q4.1
                have q1 := q4.2
                simp only [Nat.zero_mul, Nat.add_zero, List.map_cons, List.getElem_cons_zero, pr] at q0 q1
                clear q4
                have hlen : ((List.map pr (x :: m)).length : Int) = (m.length : Int) + 1 := by simp
                have hlp : (0 : Int) < ((List.map pr (x :: m)).length : Int) := by omega
                have hwx : (x.wh == x.wh) = true := beq_self_eq_true _
                go_wp2
                go_quiet (fail)
                go_wp2
                all_goals go_meet
                · have hc1 : c4 = 1 := by assumption
                  have hm0 : List.map pr m = [] := by
                    have := hc4
                    simp at this
                    exact List.length_eq_zero_iff.1 (by rw [List.length_map]; omega)
                  have ht := ((HB3.out.2.cut (below_drewN (Below.refl _ _) nq)).tail' (some ⟨g4, o4, none⟩) (.inr hm0) ⟨g4, o4, rfl, rfl⟩).fewer
                  rw [List.length_map, show c4 - 1 = 0 by omega] at ht
                  exact ⟨m, ord, Lib.hid ⟨below_drewN HB3.out.1 _, ht, by have := HI.out.2.2.1; simp at this; omega, by have := HI.out.2.2; omega, by have := HI.out.2.2; omega⟩⟩
                · have ht := ((HB3.out.2.cut (below_drewN (Below.refl _ _) nq)).tail' (some ⟨g4, o4 + 2, none⟩) (.inl rfl) ⟨g4, o4 + 2, rfl, rfl⟩).fewer
                  rw [List.length_map] at ht
                  exact ⟨m, ord, Lib.hid ⟨below_drewN HB3.out.1 _, ht, by have := HI.out.2.2.1; simp at this; omega, by have := HI.out.2.2; omega, by have := HI.out.2.2; omega⟩⟩
              · have q4 := hp4 0 (by simp)
                have q0 := q4.1
                simp only [Nat.zero_mul, Nat.add_zero, List.map_cons, List.getElem_cons_zero, pr] at q0
                clear q4 hp4
                have hlen : ((List.map pr (x :: m)).length : Int) = (m.length : Int) + 1 := by simp
                have hlp : (0 : Int) < ((List.map pr (x :: m)).length : Int) := by omega
                go_wp2_with fail
                refine (due_e w.heap.size w.heap.size x m ord xa (by omega) _ HB.out.2.fst).mono ?_
                rintro e w3 ⟨rfl, h5⟩
                have HB3 := Lib.hid (And.intro (HB.out.1.trans (h5.mono HB.out.1.size)) (HB.out.2.cut h5))
                have y0 := (h5.cell (p := ⟨g4, o4, none⟩) hg4).trans q0
                clear h5 x1 x2 q0
                have HBY := Lib.hid (HB3.out.2.aside _ (List.mem_cons_self ..))
                have x1 := HBY.out.cell 1 _ rfl
                go_wp2
                go_quiet (fail)
                go_wp2
                go_meet
                case rel => exact ⟨x :: m, ord, Lib.hid ⟨below_drewN HB3.out.1 _, by have := (HB3.out.2.cut (below_drewN (Below.refl _ _) nq)).fewer; rwa [List.length_map, List.length_cons] at this, by have := HI.out.2.2; omega, by have := HI.out.2.2; omega, by have := HI.out.2.2; omega⟩⟩
          · have hkb2 : (xk == 2) = false := beq_eq_false_iff_ne.2 hk2'
            have HK2 := Lib.hid hk2'
            clear hk2'
            by_cases hk3 : xk = 3
            · have hkb3 : (xk == 3) = true := beq_iff_eq.2 hk3
              have HK3 := Lib.hid hk3
              clear hk3 x1
              obtain ⟨A4, c4, rfl⟩ := HB.out.2.form
              have HPL : Hid ((List.map pr m).length = m.length ∧ m.length ≤ 80) := Lib.hid ⟨List.length_map .., by have := HI.out.2.2; omega⟩
              generalize hP : List.map pr m = P at *
              have HP := Lib.hid hP
              clear hP
              have hpl80 : P.length ≤ 80 := by have := HPL.out; omega
              have hBlt : B < wb.heap.size := (HB.out.2.aside _ (List.mem_cons_self ..)).lt
              go_wp2
              go_loopw [10, 11] (fun v10 v11 wr => ∃ (j : Nat), v11 = .int .i64 j ∧ j ≤ P.length ∧ Hid (Below wb.heap.size wb wr ∧ Own2 wr wb.heap.size v10 ((P.take j).filter (fun p => p.2 != xw)))) (fun _ v _ => P.length - (intOf v).toNat)
              case atStart => exact ⟨0, rfl, Nat.zero_le _, Lib.hid ⟨Below.refl _ _, World.ownsRow_nil _ _ _ _⟩⟩
              case round =>
                obtain ⟨j, rfl, hj, HJ⟩ := hrel
                have y2 := (HJ.out.1.cell (p := ⟨B, 2, none⟩) hBlt).trans x2
                by_cases hlt : j < P.length
                · obtain ⟨g, o, rfl, hg, q0, q1⟩ := HB.out.2.cellsAt j hlt
                  have p0 := (HJ.out.1.cell (p := ⟨g, o + j * 2, none⟩) hg).trans q0
                  have p1 := (HJ.out.1.cell (p := ⟨g, o + j * 2 + 1, none⟩) hg).trans q1
                  have HF : Hid (∀ b, (P[j].2 != xw) = b → (P.take (j + 1)).filter (fun p => p.2 != xw) = if b then (P.take j).filter (fun p => p.2 != xw) ++ [P[j]] else (P.take j).filter (fun p => p.2 != xw)) := Lib.hid (fun b hb => by
                    cases b
                    · exact take_filter_no hlt hb
                    · exact take_filter_yes hlt hb)
                  have HE : Hid (P[j] = (P[j].1, P[j].2)) := Lib.hid rfl
                  have HLF : Hid (((P.take j).filter (fun p => p.2 != xw)).length ≤ 80) := Lib.hid (by have h1 := List.length_filter_le (fun p : Int × Int => p.2 != xw) (P.take j); have h2 := List.length_take_le j P; omega)
                  clear q0 q1
                  generalize P[j].1 = a1 at *
                  generalize P[j].2 = a2 at *
                  generalize (P.take j).filter (fun p => p.2 != xw) = Q at *
                  by_cases hne : a2 = xw
                  · have hb : (a2 != xw) = false := by simp [hne]
                    have HQ := Lib.hid (HF.out false hb)
                    have HNE := Lib.hid hne
                    clear hne
                    go_wp2
                    go_quiet (fail)
                    go_wp2
                    go_roundw
                    case rel => exact ⟨j + 1, by go_num, by omega, Lib.hid ⟨below_drewN HJ.out.1 _, by have := HQ.out; simp only [Bool.false_eq_true, if_false] at this; rw [this]; exact own2_drewN HJ.out.2 _⟩⟩
                    case measure => simp [intOf]; omega
                  · have hb : (a2 != xw) = true := by simp [hne]
                    have HQ := Lib.hid (HF.out true hb)
                    have HNE := Lib.hid hne
                    clear hne
                    go_wp2
                    go_quiet (fail)
                    have HJ2 : Hid (Below wb.heap.size wb (wr.drewN nq) ∧ Own2 (wr.drewN nq) wb.heap.size u10 Q) := Lib.hid ⟨below_drewN HJ.out.1 _, own2_drewN HJ.out.2 _⟩
                    have p0' : (wr.drewN nq).cell? ⟨g, o + j * 2, none⟩ = some (.int .i64 a1) := p0
                    have p1' : (wr.drewN nq).cell? ⟨g, o + j * 2 + 1, none⟩ = some (.int .i64 a2) := p1
                    have hsz := HJ2.out.1.size
                    clear p0 p1 y2
                    generalize wr.drewN nq = wz at *
                    go_wp2_with (at_builtin; (refine wpList_append_lies _ rfl _ _ 59 rfl wb.heap.size 62 j0 (.agg #[.int .i64 0, .int .i64 0]) 2 16 Try.underlying59 hj0 hjz0 hjz1 hjz2 rfl (by decide) _ _ _ rfl (World.ownsRow.alloc HJ2.out.2 _) ⟨wz.heap.size, 0, none⟩ 1 1 [.int .i64 a1, .int .i64 a2] rfl rfl (World.news_of_block (blk_new _ _)) (by simp [Value.oneCell']) (by decide) (by have := HLF.out; unfold maxLen; omega) (by have := HLF.out; omega) (by simp; omega) _ rfl ?_); intro gg cc w5 hown hgrow hat hlt5)
                    go_roundw
                    case rel =>
                      have hbl : Below wb.heap.size wz w5 := ((Below.refl wb.heap.size wz).alloc hsz _).grown hgrow (by simp; omega) (fun j e => HJ2.out.2.ge e)
                      refine ⟨j + 1, by go_num, by omega, Lib.hid ⟨HJ2.out.1.trans hbl, ?_⟩⟩
                      have := HQ.out
                      simp only [if_true] at this
                      rw [this, HE.out]
                      unfold Own2
                      rw [List.length_append, flat2_append]
                      exact hown
                    case measure => simp [intOf]; omega
                · obtain rfl : j = P.length := by omega
                  have HQ : Hid ((P.take P.length).filter (fun p => p.2 != xw) = (keepW xw m).map pr) := Lib.hid (by rw [List.take_length, keepW_pr, HP.out])
                  have HLQ : Hid (((P.take P.length).filter (fun p => p.2 != xw)).length = (keepW xw m).length ∧ (keepW xw m).length ≤ m.length) := Lib.hid ⟨by rw [HQ.out, List.length_map], List.length_filter_le _ _⟩
                  generalize (P.take P.length).filter (fun p => p.2 != xw) = Q at *
                  obtain ⟨A10, c10, rfl⟩ := HJ.out.2.form
                  have HM1 := Lib.hid (And.intro (HB.out.1.trans (HJ.out.1.mono HB.out.1.size)) (HB.out.2.swapList HJ.out.1 HJ.out.2))
                  have hq1 : Q.length ≤ P.length := by have := HLQ.out; have := HPL.out; omega
                  have HEQ : Hid ((m.length : Int) - ((keepW xw m).length : Int) = (P.length : Int) - (Q.length : Int)) := Lib.hid (by have := HLQ.out; have := HPL.out; omega)
                  go_wp2_with fail
                  refine (cancel_m w.heap.size w.heap.size m ord xw _ _ _ (by have := HPL.out; omega) _ HM1.out.1.size HM1.out.2).mono ?_
                  rintro e w3 ⟨rfl, h1, h2⟩
                  have HM2 := Lib.hid (And.intro (HM1.out.1.trans h2) h1.fewer)
                  clear h1 h2 y2
                  rw [HEQ.out]
                  go_wp2
                  go_meet
                  case rel => exact ⟨keepW xw m, ord, Lib.hid ⟨HM2.out.1, by rw [← HQ.out]; exact HM2.out.2, by have := HLQ.out; have := HI.out.2.2; omega, by have := HI.out.2.2; omega, by have := HI.out.2.2; omega⟩⟩
            · have hkb3 : (xk == 3) = false := beq_eq_false_iff_ne.2 hk3
              have HK3 := Lib.hid hk3
              clear hk3
              go_wp2
              go_meet
              case rel => exact ⟨m, ord, Lib.hid ⟨HB.out.1, HB.out.2.fewer, by have := HI.out.2.2; omega, by have := HI.out.2.2; omega, by have := HI.out.2.2; omega⟩⟩
      case rest =>
        obtain ⟨m, ord, HT⟩ := hcut
        have hwc : Hid (w.heap.size ≤ wc.heap.size) := Lib.hid HT.out.1.size
        clear HB p0 p1 p2
        cases m with
        | nil =>
          obtain ⟨A4, c4, rfl⟩ := HT.out.2.1.form
          go_wp2
          go_loopw [12, 13] (fun v12 v13 wq => v12 = .slice none 0 0 ∧ v13 = .int .i64 0 ∧ Hid (Below wc.heap.size wc wq)) (fun _ _ _ => 0)
          case atStart => exact ⟨rfl, rfl, Lib.hid (Below.refl _ _)⟩
          case round =>
            obtain ⟨rfl, rfl, hb⟩ := hrel
            have HU := Lib.hid (And.intro (HT.out.1.trans (hb.out.mono hwc.out)) (HT.out.2.1.cut hb.out))
            clear hb
            go_wp2_with fail
            refine (next_0 w.heap.size w.heap.size ord _ HU.out.2.fst).mono ?_
            rintro e w3 ⟨rfl, h5⟩
            have HU1 := Lib.hid (And.intro (HU.out.1.trans (h5.mono HU.out.1.size)) (HU.out.2.cut h5))
            clear h5 HU
            go_wp2_with fail
            refine (len_x w.heap.size w.heap.size [] ord _ HU1.out.2.fst).mono ?_
            rintro e w4 ⟨rfl, rfl⟩
            rw [show (([] : List Ent).length : Int) = 0 from rfl]
            go_wp2_with fail
            refine (all_x w.heap.size w.heap.size [] ord (by decide) _ HU1.out.2.fst).mono ?_
            rintro e w5 ⟨va, rfl, h1, h2⟩
            have HU2 := Lib.hid (And.intro (HU1.out.1.trans (h2.mono HU1.out.1.size)) (And.intro (HU1.out.2.cut h2) h1))
            clear h1 h2 HU1
            go_wp2_with fail
            refine (same_any _ _ [] [] (by decide) _ HU2.out.2.2 (.inl ⟨none, 0, rfl, rfl⟩)).mono ?_
            rintro e w6 ⟨rfl, h2⟩
            have HU3 := Lib.hid (And.intro (HU2.out.1.trans (h2.mono HU2.out.1.size)) (HU2.out.2.1.cut h2))
            clear h2 HU2
            rw [show decide (([] : List Int) = []) = true from rfl]
            go_wp2
            go_roundw
            case rel => exact ⟨k + 1, [], ord, by go_num, by omega, by omega, Lib.hid ⟨HU3.out.1, HU3.out.2, Nat.zero_le _, HT.out.2.2.2.1, by have := HT.out.2.2.2.2; omega⟩⟩
            case measure => simp [intOf]; omega
        | cons x m =>
          obtain ⟨A4, c4, rfl⟩ := HT.out.2.1.form
          have HPL : Hid ((List.map pr (x :: m)).length = m.length + 1 ∧ m.length + 1 ≤ 81) := Lib.hid ⟨by simp, by have := HT.out.2.2.1; simp at this; omega⟩
          have HP0 : Hid (∀ h : 0 < (List.map pr (x :: m)).length, (List.map pr (x :: m))[0].1 = x.tm ∧ (List.map pr (x :: m))[0].2 = x.wh) := Lib.hid (fun _ => ⟨rfl, rfl⟩)
          generalize hP : List.map pr (x :: m) = P at *
          have HP := Lib.hid hP
          clear hP
          have hpl80 : P.length ≤ 81 := by have := HPL.out; omega
          have hpl0 : 0 < P.length := by have := HPL.out; omega
          go_wp2
          go_loopw [12, 13] (fun v12 v13 wq => ∃ (j : Nat), v13 = .int .i64 j ∧ j ≤ P.length ∧ Hid (Below wc.heap.size wc wq ∧ Own1 wq wc.heap.size v12 ((P.take j).map Prod.snd))) (fun _ v _ => P.length - (intOf v).toNat)
          case atStart => exact ⟨0, rfl, Nat.zero_le _, Lib.hid ⟨Below.refl _ _, World.ownsRow_nil _ _ _ _⟩⟩
          case round =>
            obtain ⟨j, rfl, hj, HJ⟩ := hrel
            by_cases hlt : j < P.length
            · obtain ⟨g, o, rfl, hg, q0, q1⟩ := HT.out.2.1.cellsAt j hlt
              have p1 := (HJ.out.1.cell (p := ⟨g, o + j * 2 + 1, none⟩) hg).trans q1
              have HF : Hid ((P.take (j + 1)).map Prod.snd = (P.take j).map Prod.snd ++ [P[j].2]) := Lib.hid (by rw [List.take_succ_eq_append_getElem hlt, List.map_append]; rfl)
              have HLF : Hid (((P.take j).map Prod.snd).length ≤ 81) := Lib.hid (by rw [List.length_map]; have h2 := List.length_take_le j P; omega)
              have hsz := HJ.out.1.size
              clear q0 q1
              generalize P[j].2 = a2 at *
              generalize (P.take j).map Prod.snd = Q at *
              go_wp2_with (at_builtin; (refine wpList_append_lies _ rfl _ _ 22 rfl wc.heap.size 3 i0 (.int .i64 0) 1 8 Try.underlying22 hi0 hz0 hz1 hz2 rfl (by decide) _ _ _ rfl (World.ownsRow.alloc HJ.out.2 _) ⟨wr.heap.size, 0, none⟩ 1 1 [.int .i64 a2] rfl rfl (World.news_of_block (blk_new _ _)) (ints_one _) (by decide) (by have := HLF.out; unfold maxLen; omega) (by have := HLF.out; omega) (by simp; omega) _ rfl ?_); intro gg cc w5 hown hgrow hat hlt5)
              go_roundw
              case rel =>
                have hbl : Below wc.heap.size wr w5 := ((Below.refl wc.heap.size wr).alloc hsz _).grown hgrow (by simp; omega) (fun j e => HJ.out.2.ge e)
                refine ⟨j + 1, by go_num, by omega, Lib.hid ⟨HJ.out.1.trans hbl, ?_⟩⟩
                rw [HF.out]
                unfold Own1
                rw [List.length_append, List.map_append]
                exact hown
              case measure => simp [intOf]; omega
            · obtain rfl : j = P.length := by omega
              have HQ : Hid ((P.take P.length).map Prod.snd = (x :: m).map Ent.wh) := Lib.hid (by rw [List.take_length, ← HP.out, List.map_map]; rfl)
              generalize (P.take P.length).map Prod.snd = Q at *
              obtain ⟨g, o, rfl, hg, q0, q1⟩ := HT.out.2.1.cellsAt 0 hpl0
              have r0 := (HJ.out.1.cell (p := ⟨g, o + 0 * 2, none⟩) hg).trans q0
              have r1 := (HJ.out.1.cell (p := ⟨g, o + 0 * 2 + 1, none⟩) hg).trans q1
              rw [(HP0.out hpl0).1] at r0
              rw [(HP0.out hpl0).2] at r1
              simp only [Nat.zero_mul, Nat.add_zero] at r0 r1
              clear q0 q1
              obtain ⟨A12, c12, rfl⟩ := HJ.out.2.form
              have HU := Lib.hid (And.intro (HT.out.1.trans (HJ.out.1.mono hwc.out)) (And.intro (HT.out.2.1.cut HJ.out.1) HJ.out.2))
              have hgr : g < wr.heap.size := Nat.lt_of_lt_of_le hg HJ.out.1.size
              have hlp : (0 : Int) < (P.length : Int) := by omega
              have HEL : Hid (((x :: m).length : Int) = (P.length : Int)) := Lib.hid (by have := HPL.out.1; simp; omega)
              go_wp2_with fail
              refine (next_x w.heap.size w.heap.size x m ord _ HU.out.2.1.fst).mono ?_
              rintro e w3 ⟨rfl, h5⟩
              have HU1 := Lib.hid (And.intro (HU.out.1.trans (h5.mono HU.out.1.size)) (And.intro (HU.out.2.1.cut h5) (HU.out.2.2.cut h5)))
              have s0 := (h5.cell (p := ⟨g, o, none⟩) hgr).trans r0
              have s1 := (h5.cell (p := ⟨g, o + 1, none⟩) hgr).trans r1
              clear h5 r0 r1
              generalize hxt : x.tm = xt at *
              generalize hxw : x.wh = xw at *
              have HXT := Lib.hid (And.intro hxt hxw)
              clear hxt hxw
              go_wp2_with fail
              refine (len_x w.heap.size w.heap.size (x :: m) ord _ HU1.out.2.1.fst).mono ?_
              rintro e w4 ⟨rfl, rfl⟩
              rw [HEL.out]
              go_wp2_with fail
              refine (all_x w.heap.size w.heap.size (x :: m) ord (by have := HPL.out; simp; omega) _ HU1.out.2.1.fst).mono ?_
              rintro e w5 ⟨va, rfl, h1, h2⟩
              have HU2 := Lib.hid (And.intro (HU1.out.1.trans (h2.mono HU1.out.1.size)) (And.intro (HU1.out.2.1.cut h2) (And.intro h1 (HU1.out.2.2.cut h2))))
              clear h1 h2
              go_wp2_with fail
              refine (same_any _ _ ((x :: m).map Ent.wh) Q (by have := HPL.out; rw [List.length_map]; simp; omega) _ HU2.out.2.2.1 HU2.out.2.2.2.ints).mono ?_
              rintro e w6 ⟨rfl, h2⟩
              have HU3 := Lib.hid (And.intro (HU2.out.1.trans (h2.mono HU2.out.1.size)) (HU2.out.2.1.cut h2))
              clear h2
              rw [show decide (List.map Ent.wh (x :: m) = Q) = true from decide_eq_true HQ.out.symm]
              go_wp2
              go_roundw
              case rel => exact ⟨k + 1, x :: m, ord, by go_num, by omega, by omega, Lib.hid ⟨HU3.out.1, by rw [HP.out]; exact HU3.out.2, by have := HT.out.2.2.1; exact this, HT.out.2.2.2.1, by have := HT.out.2.2.2.2; omega⟩⟩
              case measure => simp [intOf]; omega
    · obtain hlt | hlt : ¬ k < l.length ∨ (k < l.length ∧ ¬ k < 80) := by omega
      all_goals
        go_wp2
        go_ret
        exact ⟨rfl, HI.out.1⟩
end Go.Proofs.Ytlccileccmiomaa
