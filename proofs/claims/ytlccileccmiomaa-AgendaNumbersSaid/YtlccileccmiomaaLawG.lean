/- The law AgendaCancels. Conditions: as each theorem states them. -/
import Derived.Test.YtlccileccmiomaaLawE
namespace Go.Proofs.Ytlccileccmiomaa
open Go.RowKit
set_option linter.unusedVariables false
set_option linter.unusedSimpArgs false

theorem AgX.inOrder {w : World} {base b : Nat} {m : List Ent} {ord : Int} (h : AgX w base b m ord) : m.Pairwise Ent.bef := by
  obtain ⟨v, h⟩ := h
  exact h.srt.1
/-- What is seen of an entry: its time and its thing. -/
def pr (e : Ent) : Int × Int := (e.tm, e.wh)
def insP (x : Int × Int) : List (Int × Int) → List (Int × Int)
  | [] => [x]
  | y :: m => if y.1 ≤ x.1 then y :: insP x m else x :: y :: m
theorem map_insE (x : Ent) (m : List Ent) : (insE x m).map pr = insP (pr x) (m.map pr) := by
  induction m with
  | nil => rfl
  | cons y m ih =>
    unfold insE
    rw [List.map_cons]
    unfold insP
    show List.map pr (if y.tm ≤ x.tm then _ else _) = if y.tm ≤ x.tm then _ else _
    split
    · rw [List.map_cons, ih]
    · rfl
theorem insP_first {x : Int × Int} {m : List (Int × Int)} (h : ∀ y ∈ m, x.1 < y.1) : insP x m = x :: m := by
  cases m with
  | nil => rfl
  | cons y m =>
    unfold insP
    rw [if_neg (by have := h y (List.mem_cons_self ..); omega)]
theorem insP_cons (x y : Int × Int) (m : List (Int × Int)) : insP x (y :: m) = if y.1 ≤ x.1 then y :: insP x m else x :: y :: m := rfl
theorem filter_insP (f : Int × Int → Bool) (x : Int × Int) (m : List (Int × Int)) (hs : m.Pairwise (fun a b => a.1 ≤ b.1)) : (insP x m).filter f = if f x then insP x (m.filter f) else m.filter f := by
  induction m with
  | nil =>
    show [x].filter f = if f x then [x] else []
    by_cases h : f x <;> simp [h]
  | cons y m ih =>
    rw [List.pairwise_cons] at hs
    have hi := ih hs.2
    rw [insP_cons]
    by_cases hy : y.1 ≤ x.1
    · rw [if_pos hy, List.filter_cons]
      by_cases hf : f y
      · rw [if_pos hf, hi]
        by_cases hx : f x
        · rw [if_pos hx, if_pos hx, List.filter_cons_of_pos hf, insP_cons, if_pos hy]
        · rw [if_neg hx, if_neg hx, List.filter_cons_of_pos hf]
      · rw [if_neg hf, hi, List.filter_cons_of_neg hf]
    · rw [if_neg hy]
      have hq : ∀ z ∈ (y :: m).filter f, x.1 < z.1 := fun z hz => by
        rcases List.mem_cons.1 (List.mem_filter.1 hz).1 with rfl | hz
        · omega
        · have := hs.1 z hz; omega
      by_cases hx : f x
      · rw [if_pos hx, insP_first hq, List.filter_cons_of_pos hx]
      · rw [if_neg hx, List.filter_cons_of_neg hx]
theorem pr_sorted {m : List Ent} (h : m.Pairwise Ent.bef) : (m.map pr).Pairwise (fun a b => a.1 ≤ b.1) := by
  rw [List.pairwise_map]
  exact h.imp (fun {a b} hb => by rcases hb with hb | hb <;> simp only [pr] <;> omega)
theorem keepW_pr (what : Int) (m : List Ent) : (keepW what m).map pr = (m.map pr).filter (fun p => p.2 != what) := by
  unfold keepW
  rw [List.filter_map]
  rfl
theorem keepW_ins {what : Int} {x : Ent} {m n : List Ent} (hs : m.Pairwise Ent.bef) (h : (keepW what m).map pr = n.map pr) : (keepW what (insE x m)).map pr = if x.wh = what then n.map pr else insP (pr x) (n.map pr) := by
  rw [keepW_pr, map_insE, filter_insP _ _ _ (pr_sorted hs), ← keepW_pr, h]
  by_cases hx : x.wh = what
  · simp [pr, hx]
  · simp [pr, hx]
theorem keepW_twice (what : Int) (m : List Ent) : keepW what (keepW what m) = keepW what m := by
  unfold keepW
  rw [List.filter_filter]
  congr 1
  funext x
  simp
theorem map_wh_pr (m : List Ent) : m.map Ent.wh = (m.map pr).map Prod.snd := by rw [List.map_map]; rfl

set_option maxRecDepth 100000 in
set_option maxHeartbeats 8000000 in
theorem cancels_any (A : Option Addr) (c : Nat) (xs : List Int) (what : Int) (w : World) (hx : ArgInts w A xs) :
    Calls Try.prog 6 #[.slice A xs.length c, .int .i64 what] w fun e w' => e = .returned (.bool true) ∧ Below w.heap.size w w' := by
  have HX := Lib.hid hx
  clear hx
  go_enter Try.func6, Try.ntmps6
  go_wp2_with fail
  refine (new_x w).mono ?_
  rintro e w1 ⟨rfl, h1, h2⟩
  have H1 := Lib.hid (And.intro h1 h2)
  clear h1 h2
  go_wp2_with fail
  refine (new_2 w w1 w.heap.size H1.out.2.size H1.out.1).mono ?_
  rintro e w2 ⟨rfl, h1, h2⟩
  have H2 := Lib.hid (And.intro h1 (H1.out.2.trans (h2.mono H1.out.2.size)))
  clear h1 h2 H1
  generalize w1.heap.size = b at *
  go_wp2_with fail
  refine (within_any what 0 5 (by decide) (by decide) (by decide) _).mono ?_
  rintro e w' ⟨rfl, rfl⟩
  generalize withinZ what 0 5 = K at *
  go_wp2_with fail
  go_loopw [8, 9] (fun v8 v9 wr => ∃ (k r : Nat), v8 = .int .i64 r ∧ v9 = .int .i64 k ∧ k ≤ xs.length ∧ k ≤ 60 ∧ r ≤ k ∧ Hid (Below w.heap.size w wr ∧ ∃ ma mb, Ag2 wr w.heap.size w.heap.size b ma mb k ((k - r : Nat) : Int) ∧ ma.length = k ∧ mb.length = k - r ∧ (keepW K ma).map pr = mb.map pr)) (fun _ v _ => 60 - (intOf v).toNat)
  case atStart => exact ⟨0, 0, rfl, rfl, Nat.zero_le _, Nat.zero_le _, Nat.zero_le _, Lib.hid ⟨H2.out.2, [], [], H2.out.1, rfl, rfl, rfl⟩⟩
  case round =>
    obtain ⟨k, r, rfl, rfl, hk, hk2, hr, HI⟩ := hrel
    by_cases hlt : k < xs.length ∧ k < 60
    · obtain ⟨hlt, hlt2⟩ := hlt
      obtain ⟨g, o, rfl, hg, hcx⟩ := HX.out k hlt
      have p0 := (HI.out.1.cell (p := ⟨g, o + k, none⟩) hg).trans hcx
      clear hcx
      generalize xs[k] = x at *
      obtain ⟨ma, mb, hm⟩ := HI.out.2
      have HM := Lib.hid hm
      clear hm
      have HT := withinZ_ge x 0 1073741824 (by decide)
      have HW := Lib.hid (fun wz => within_any x 0 1073741824 (by decide) (by decide) (by decide) wz)
      generalize withinZ x 0 1073741824 = T at *
      have t1 : T.tmod 6 = T % 6 := Int.tmod_eq_emod_of_nonneg HT.1
      have t2 : T.tdiv 6 = T / 6 := Int.tdiv_eq_ediv_of_nonneg HT.1
      have t3 : (T.tdiv 6).tmod 9 = T / 6 % 9 := by rw [t2]; exact Int.tmod_eq_emod_of_nonneg (by omega)
      have e1 : wrap64 (T.tmod 6) = T.tmod 6 := by unfold wrap64; omega
      have e2 : wrap64 (T.tdiv 6) = T.tdiv 6 := by unfold wrap64; omega
      have e3 : wrap64 ((T.tdiv 6).tmod 9) = (T.tdiv 6).tmod 9 := by unfold wrap64; omega
      clear t1 t2 t3
      go_wp2_with fail
      refine (HW.out _).mono ?_
      rintro e w' ⟨rfl, rfl⟩
      go_wp2_with fail
      refine (HW.out _).mono ?_
      rintro e w' ⟨rfl, rfl⟩
      go_wp2_with fail
      generalize T % 6 = W at *
      generalize T / 6 % 9 = M at *
      refine (add_2 w.heap.size w.heap.size b ma mb k _ M W (by have := HM.out.2.1; omega) (by omega) _ HI.out.1.size HM.out.1).mono ?_
      rintro e w3 ⟨rfl, h1, h2⟩
      have hpr := keepW_ins (what := K) (x := ⟨M, k, W⟩) (n := mb) HM.out.1.fst.inOrder HM.out.2.2.2
      have HR := Lib.hid (And.intro h1 (And.intro (HI.out.1.trans h2) hpr))
      clear h1 h2 p0 hpr HT e1 e2 e3
      by_cases hwk : W = K
      · have hb1 : (W == K) = true := beq_iff_eq.2 hwk
        have HWK := Lib.hid hwk
        clear hwk
        go_wp2
        go_roundw
        case rel => exact ⟨k + 1, r + 1, by go_num, by go_num, by omega, by omega, by omega, Lib.hid ⟨HR.out.2.1, _, mb, by rw [show k + 1 - (r + 1) = k - r by omega]; exact HR.out.1, by rw [insE_length, HM.out.2.1], by rw [HM.out.2.2.1]; omega, by rw [HR.out.2.2, if_pos HWK.out]⟩⟩
        case measure => simp [intOf]; omega
      · have hb1 : (W == K) = false := beq_eq_false_iff_ne.2 hwk
        have HWK := Lib.hid hwk
        clear hwk
        go_wp2_with fail
        refine (add_2 w.heap.size b w.heap.size mb _ _ _ M W (by have := HM.out.2.2.1; omega) (by omega) _ HR.out.2.1.size HR.out.1.swap).mono ?_
        rintro e w4 ⟨rfl, h1, h2⟩
        have HR2 := Lib.hid (And.intro h1.swap (HR.out.2.1.trans h2))
        clear h1 h2
        go_wp2
        go_roundw
        case rel => exact ⟨k + 1, r, rfl, by go_num, by omega, by omega, by omega, Lib.hid ⟨HR2.out.2, _, _, by have h := HR2.out.1; rw [show (((k + 1 - r : Nat)) : Int) = ((k - r : Nat) : Int) + 1 by omega]; exact h, by rw [insE_length, HM.out.2.1], by rw [insE_length, HM.out.2.2.1]; omega, by rw [HR.out.2.2, if_neg HWK.out, map_insE]; rfl⟩⟩
        case measure => simp [intOf]; omega
    · obtain ⟨ma, mb, hm⟩ := HI.out.2
      have hlen : (keepW K ma).length = k - r := by have := congrArg List.length hm.2.2.2; simp only [List.length_map] at this; rw [this, hm.2.2.1]
      have HE1 : Hid (((ma.length : Int) - (keepW K ma).length) = (r : Int)) := Lib.hid (by rw [hlen, hm.2.1]; omega)
      have HE2 : Hid (((keepW K ma).length : Int) - (keepW K (keepW K ma)).length = 0) := Lib.hid (by rw [keepW_twice]; omega)
      have HE3 : Hid ((keepW K ma).map Ent.wh = mb.map Ent.wh ∧ (keepW K ma).length = mb.length ∧ mb.length ≤ 60 ∧ ma.length ≤ 60) := Lib.hid ⟨by rw [map_wh_pr, map_wh_pr, hm.2.2.2], by rw [hlen, hm.2.2.1], by rw [hm.2.2.1]; omega, by rw [hm.2.1]; exact hk2⟩
      have HM := Lib.hid (And.intro HI.out.1 hm.1)
      clear hm hlen HI H2
      obtain hlt | hlt : ¬ k < xs.length ∨ (k < xs.length ∧ ¬ k < 60) := by omega
      all_goals
        go_wp2_with fail
        refine (cancel_2 w.heap.size w.heap.size b ma mb _ _ K (by have := HE3.out.2.2.2; omega) _ HM.out.1.size HM.out.2).mono ?_
        rintro e w3 ⟨rfl, h1, h2⟩
        have HK1 := Lib.hid (And.intro (HM.out.1.trans h2) h1)
        clear h1 h2
        rw [HE1.out]
        go_wp2_with fail
        refine (cancel_2 w.heap.size w.heap.size b _ mb _ _ K (by have := HE3.out; omega) _ HK1.out.1.size HK1.out.2).mono ?_
        rintro e w4 ⟨rfl, h1, h2⟩
        rw [keepW_twice] at h1
        have HK2 := Lib.hid (And.intro (HK1.out.1.trans h2) h1)
        clear h1 h2
        rw [HE2.out]
        go_wp2_with fail
        refine (all_x w.heap.size w.heap.size _ _ (by have := HE3.out; omega) _ HK2.out.2.fst).mono ?_
        rintro e w5 ⟨va, rfl, h1, h2⟩
        have HK3 := Lib.hid (And.intro (HK2.out.1.trans (h2.mono HK2.out.1.size)) (And.intro (HK2.out.2.cut h2) h1))
        clear h1 h2
        go_wp2_with fail
        refine (all_x w.heap.size b _ _ (by have := HE3.out; omega) _ HK3.out.2.1.swap.fst).mono ?_
        rintro e w6 ⟨vb, rfl, h1, h2⟩
        have HK4 := Lib.hid (And.intro (HK3.out.1.trans (h2.mono HK3.out.1.size)) (And.intro (HK3.out.2.1.cut h2) (And.intro (HK3.out.2.2.below h2) h1)))
        clear h1 h2
        go_wp2_with fail
        refine (same_any _ _ _ _ (by rw [List.length_map]; have := HE3.out; omega) _ HK4.out.2.2.1 HK4.out.2.2.2).mono ?_
        rintro e w7 ⟨rfl, h2⟩
        have HK5 := Lib.hid (And.intro (HK4.out.1.trans (h2.mono HK4.out.1.size)) (HK4.out.2.1.cut h2))
        clear h2
        rw [show decide ((keepW K ma).map Ent.wh = mb.map Ent.wh) = true from decide_eq_true HE3.out.1]
        go_wp2_with fail
        refine (len_x w.heap.size w.heap.size _ _ _ HK5.out.2.fst).mono ?_
        rintro e w8 ⟨rfl, rfl⟩
        go_wp2_with fail
        refine (len_x w.heap.size b _ _ _ HK5.out.2.swap.fst).mono ?_
        rintro e w8 ⟨rfl, rfl⟩
        rw [HE3.out.2.1]
        go_wp2_with fail
        refine (known_any _).mono ?_
        rintro e w9 ⟨rfl, h5⟩
        have HK6 := Lib.hid (HK5.out.1.trans (h5.mono HK5.out.1.size))
        clear h5
        go_wp2
        go_ret
        exact ⟨rfl, HK6.out⟩
end Go.Proofs.Ytlccileccmiomaa
