/- Contracts of functions that the law reaches: what each call comes to, as a Lean function says it. Conditions: as each theorem states them. Written by wip/tools/refit.py out of the kit's print; the walks are turned where the print's own stop. -/
import Derived.Test.YtnjdimemiojoaaaFtx0
namespace Go.Proofs.Ytnjdimemiojoaaa.Ft
open Go.RowKit Go.Proofs.YtnjdimemiojoaaaW.PrintWords Go.Proofs.YtnjdimemiojoaaaW.PrintLast Go.Proofs.YtnjdimemiojoaaaW.PrintMore
attribute [local go_sem] max2_int min2_int max_two min_two max_three min_three max_four min_four   -- for this text's walks alone
set_option linter.unusedVariables false
set_option linter.unusedSimpArgs false

/-! ### fair_Round: function 4 -/
def fair_Round.l0 : Nat → Int → List (S32) → Int → Option ((List (S32)))
  | 0, _, _, _ => none
  | k + 1, x1, x5, x11 => if x11 < 32 then (if x5.length < 2513169434916 then (fair_Round.l0 k x1 (x5 ++ [(⟨6, 0, 0, 0, ([] : List Int)⟩ : S32)]) (wrap64 (x11 + 1))) else (none)) else ((some (([(⟨9, x1, 0, 0, ([] : List Int)⟩ : S32), (⟨6, 0, 0, 0, ([] : List Int)⟩ : S32)] : List (S32)) : List (S32))).bind fun y107 => (if x5.length + y107.length < 2513169434916 then (some (x5 ++ y107)) else (none)))
def fair_Round.f (k : Nat) (a0 : Int) (a1 : Int) : Option ((List (S32))) := fair_Round.l0 k a1 (([(⟨2, 1, 0, 0, ([] : List Int)⟩ : S32), (⟨3, 0, 0, 0, ([] : List Int)⟩ : S32), (⟨4, 0, 0, 0, ([] : List Int)⟩ : S32), (⟨5, 0, 0, 0, ([] : List Int)⟩ : S32)] : List (S32))) 0
theorem fair_Round.mono_l : ∀ k, (∀ y0 y1 y2, LeO (fair_Round.l0 k y0 y1 y2) (fair_Round.l0 (k + 1) y0 y1 y2))
  | 0 => fun _ _ _ r h => by simp [fair_Round.l0] at h
  | k + 1 => by
    have ih0 := fair_Round.mono_l k
    · intro y0 y1 y2
      unfold fair_Round.l0
      repeat' first
      | (with_reducible exact ih0 _ _ _)
      | (with_reducible exact LeO.refl _)
      | (with_reducible exact LeO.none _)
      | (with_reducible refine LeO.ite ?_ ?_)
      | (with_reducible refine LeO.bind ?_ (fun _ => ?_))
      | exact ih0 _ _ _
      | exact LeO.none _
      | refine LeO.ite ?_ ?_
      | refine LeO.bind ?_ (fun _ => ?_)
theorem fair_Round.mono : ∀ a0 a1 k, LeO (fair_Round.f k a0 a1) (fair_Round.f (k + 1) a0 a1) := by
  intro a0 a1 k
  have ih0 := fair_Round.mono_l k
  unfold fair_Round.f
  repeat' first
      | (with_reducible exact ih0 _ _ _)
      | (with_reducible exact LeO.refl _)
      | (with_reducible exact LeO.none _)
      | (with_reducible refine LeO.ite ?_ ?_)
      | (with_reducible refine LeO.bind ?_ (fun _ => ?_))
      | exact ih0 _ _ _
      | exact LeO.none _
      | refine LeO.ite ?_ ?_
      | refine LeO.bind ?_ (fun _ => ?_)
set_option maxHeartbeats 8000000 in
set_option maxRecDepth 100000 in
theorem fair_Round.calls (k : Nat) (a0 : Int) (a1 : Int) (r : List (S32)) (w : World) (h : fair_Round.f k a0 a1 = some r) :
    Calls Try.prog 4 #[.int .i64 a0, .int .i64 a1] w fun e w' => ∃ v0_ : Value, e = .returned (v0_) ∧ Kd.N k32 32 w' w.heap.size (fun k_ => (w.heap.size ≤ k_)) v0_ r ∧ Below w.heap.size w w' := by
  have hu32 := Try.underlying32
  have HB := Aside0.mk (Below.refl w.heap.size w)
  have H : (fair_Round.l0 k a1 (([(⟨2, 1, 0, 0, ([] : List Int)⟩ : S32), (⟨3, 0, 0, 0, ([] : List Int)⟩ : S32), (⟨4, 0, 0, 0, ([] : List Int)⟩ : S32), (⟨5, 0, 0, 0, ([] : List Int)⟩ : S32)] : List (S32))) 0) = some r := h
  clear h
  obtain ⟨y101, hy101⟩ : ∃ y_ : List (S32), y_ = (([(⟨2, 1, 0, 0, ([] : List Int)⟩ : S32), (⟨3, 0, 0, 0, ([] : List Int)⟩ : S32), (⟨4, 0, 0, 0, ([] : List Int)⟩ : S32), (⟨5, 0, 0, 0, ([] : List Int)⟩ : S32)] : List (S32))) := ⟨_, rfl⟩
  replace H : (fair_Round.l0 k a1 y101 0) = some r := by first | (rw [hy101]; with_reducible exact H) | (have H2_ := (Option.bind_some _ _).symm.trans H; rw [hy101]; with_reducible exact H2_) | (have H2_ := (Option.bind_some _ _).symm.trans H; with_reducible exact H2_) | with_reducible exact H | (rw [hy101]; exact H) | exact H
  have Ny101 := Aside0.mk hy101
  clear hy101
  have H' := Aside0.mk H
  clear H
  go_enter Try.func4, Try.ntmps4
  go_wp2_with (first | ((with_reducible refine gate_dst (N := 10) rfl ?_); refine Kd.N_lit k32 _ 32 ?hg (N' := 10) ?hd (xs := ([(⟨2, 1, 0, 0, ([] : List Int)⟩ : S32), (⟨3, 0, 0, 0, ([] : List Int)⟩ : S32), (⟨4, 0, 0, 0, ([] : List Int)⟩ : S32), (⟨5, 0, 0, 0, ([] : List Int)⟩ : S32)] : List (S32))) (inner := [.int .i64 2, .int .i64 1, .int .i64 0, .int .i64 0, .slice none 0 0, .int .i64 3, .int .i64 0, .int .i64 0, .int .i64 0, .slice none 0 0, .int .i64 4, .int .i64 0, .int .i64 0, .int .i64 0, .slice none 0 0, .int .i64 5, .int .i64 0, .int .i64 0, .int .i64 0, .slice none 0 0]) (ok := (fun k_ => (w.heap.size ≤ k_))) (okp := (fun k_ => (w.heap.size ≤ k_))) ?hr ?hp (fun _ hk => hk) ((show ∀ k_, w.heap.size ≤ k_ → (fun k_ => (w.heap.size ≤ k_)) k_ from fun k_ hk => (Nat.le_trans (below_size (by repeat (first | (with_reducible first | exact HB.out | apply below_alloc | apply pw_below_drewN | apply below_drew1) | exact HB.out))) hk)) _ (Nat.le_refl _)) (Below.refl _ _) (Nat.le_refl _) (by simp) ?_; (case hd => rfl); (case hg => rfl); (case hr => first | (go_simp; done) | (go_simp; rfl)); (case hp => exact (Reps.c5 (show Kd.FK k32 _ _ (⟨2, 1, 0, 0, ([] : List Int)⟩ : S32) [.int .i64 2, .int .i64 1, .int .i64 0, .int .i64 0, .slice none 0 0] from (k32_mkF _ _ (⟨2, 1, 0, 0, ([] : List Int)⟩ : S32) (Nat.le_refl _) (Kd.F_nil _ _ _))) (Reps.c5 (show Kd.FK k32 _ _ (⟨3, 0, 0, 0, ([] : List Int)⟩ : S32) [.int .i64 3, .int .i64 0, .int .i64 0, .int .i64 0, .slice none 0 0] from (k32_mkF _ _ (⟨3, 0, 0, 0, ([] : List Int)⟩ : S32) (Nat.le_refl _) (Kd.F_nil _ _ _))) (Reps.c5 (show Kd.FK k32 _ _ (⟨4, 0, 0, 0, ([] : List Int)⟩ : S32) [.int .i64 4, .int .i64 0, .int .i64 0, .int .i64 0, .slice none 0 0] from (k32_mkF _ _ (⟨4, 0, 0, 0, ([] : List Int)⟩ : S32) (Nat.le_refl _) (Kd.F_nil _ _ _))) (Reps.c5 (show Kd.FK k32 _ _ (⟨5, 0, 0, 0, ([] : List Int)⟩ : S32) [.int .i64 5, .int .i64 0, .int .i64 0, .int .i64 0, .slice none 0 0] from (k32_mkF _ _ (⟨5, 0, 0, 0, ([] : List Int)⟩ : S32) (Nat.le_refl _) (Kd.F_nil _ _ _))) (Reps.none _ _)))))); intro v102 w3 ho4 hb hg_ hnew_; clear hg_ hnew_; (first | rw [← Ny101.out] at ho4 | (simp only [Int.reduceToNat] at ho4; rw [← Ny101.out] at ho4)); have n0_ := Aside0.mk (Kd.N_lower ho4 (below_size (by repeat (first | (with_reducible first | exact HB.out | apply below_alloc | apply pw_below_drewN | apply below_drew1) | exact HB.out)))); have n1_ := Aside0.mk (below_step (by repeat (first | (with_reducible first | exact HB.out | apply below_alloc | apply pw_below_drewN | apply below_drew1) | exact HB.out)) hb); clear HB; have HO103 := n0_; have HB := n1_; clear n0_ n1_; clear hb ho4))
  go_loopg [5, 11] k (fun kq v5 v11 w' => ∃ (x5_1 : List (S32)) (x11_1 : Int), v11 = .int .i64 x11_1 ∧ Aside0 (fair_Round.l0 kq a1 x5_1 x11_1 = some r) ∧ Aside0 (kq ≤ k) ∧ Aside0 (Kd.N k32 32 w' w.heap.size (fun k_ => (w.heap.size ≤ k_)) v5 x5_1) ∧ Aside0 (Below w.heap.size w w'))
  case atStart => exact ⟨(y101), (0), (by first | rfl | (simp; done) | (simp [*]; done)), H', ⟨Nat.le_refl _⟩, ⟨by (with_reducible repeat (first | apply Kd.N_alloc | apply Kd.N_drewN | apply Kd.N_drew)); exact HO103.out⟩, ⟨by repeat (first | (with_reducible first | exact HB.out | apply below_alloc | apply pw_below_drewN | apply below_drew1) | exact HB.out)⟩⟩
  case round =>
    clear H'
    try clear p2
    try clear c4
    obtain ⟨x5_1, x11_1, rfl, HA, HK1, HO_5, HB⟩ := hrel
    cases gk with
    | zero => exact absurd HA.out (by simp [fair_Round.l0])
    | succ k1 =>
      have H := HA.out
      clear HA
      simp only [fair_Round.l0] at H
      by_cases c5 : x11_1 < 32
      · rw [if_pos c5] at H
        have c5b0 : decide (x11_1 < 32) = true := decide_eq_true c5
        clear c5
        by_cases c6 : x5_1.length < 2513169434916
        · rw [if_pos c6] at H
          have LMc6 := Aside0.mk c6
          clear c6
          obtain ⟨y104, hy104⟩ : ∃ y_ : List (S32), y_ = (x5_1 ++ [(⟨6, 0, 0, 0, ([] : List Int)⟩ : S32)]) := ⟨_, rfl⟩
          replace H : (fair_Round.l0 k1 a1 y104 (wrap64 (x11_1 + 1))) = some r := by first | (rw [hy104]; with_reducible exact H) | (have H2_ := (Option.bind_some _ _).symm.trans H; rw [hy104]; with_reducible exact H2_) | (have H2_ := (Option.bind_some _ _).symm.trans H; with_reducible exact H2_) | with_reducible exact H | (rw [hy104]; exact H) | exact H
          have Ny104 := Aside0.mk hy104
          clear hy104
          have H' := Aside0.mk H
          clear H
          go_wp2_with (first | ((with_reducible refine gate_builtin (b := .append) (xs := #[.tmp 13, .tmp 15]) rfl ?_); at_builtin; refine Kd.N_append k32 (w0 := w) w.heap.size rfl (.tmp 13) (.tmp 15) 25 32 (.agg #[(.int .i64 0), (.int .i64 0), (.int .i64 0), (.int .i64 0), (.slice none 0 0)]) 56 rfl Try.underlying25 info32 rfl (by decide) (by omega) u5 x5_1 (⟨6, 0, 0, 0, ([] : List Int)⟩ : S32) [.int .i64 6, .int .i64 0, .int .i64 0, .int .i64 0, .slice none 0 0] (fun k_ => (w.heap.size ≤ k_)) (fun k_ => ((fun k_ => (w.heap.size ≤ k_))) k_ ∧ some k_ ≠ (u5 : Value).ownBlock) rfl rfl ?aP (fun _ hk => hk) ?aF ?aO ?aB ?aS ?aL ?_; (case aP => exact (k32_mkF _ _ (⟨6, 0, 0, 0, ([] : List Int)⟩ : S32) (Nat.le_refl _) (Kd.F_nil _ _ _))); (case aB => exact (by repeat (first | (with_reducible first | exact HB.out | apply below_alloc | apply pw_below_drewN | apply below_drew1) | exact HB.out))); (case aF => exact (fun k_ hk => (Nat.le_trans (below_size (by repeat (first | (with_reducible first | exact HB.out | apply below_alloc | apply pw_below_drewN | apply below_drew1) | exact HB.out))) hk))); (case aO => exact (by (with_reducible repeat (first | apply Kd.N_alloc | apply Kd.N_drewN | apply Kd.N_drew)); exact HO_5.out)); (case aS => exact (below_size (by repeat (first | (with_reducible first | exact HB.out | apply below_alloc | apply pw_below_drewN | apply below_drew1) | exact HB.out)))); (case aL => have := LMc6.out; omega); intro v105 w7 ho hb hg hat; rw [← Ny104.out] at ho; have n0_ := Aside0.mk (hb); have n1_ := Aside0.mk (ho); clear HB; clear HO_5; have HB := n0_; have HO106 := n1_; clear n0_ n1_; clear ho hb hg hat))
          go_roundg k1
          case measure => have := HK1.out; omega
          case rel => exact ⟨(y104), (wrap64 (x11_1 + 1)), (by first | rfl | (simp; done) | (simp [*]; done)), H', ⟨by have := HK1.out; omega⟩, ⟨by (with_reducible repeat (first | apply Kd.N_alloc | apply Kd.N_drewN | apply Kd.N_drew)); exact HO106.out⟩, ⟨by repeat (first | (with_reducible first | exact HB.out | apply below_alloc | apply pw_below_drewN | apply below_drew1) | exact HB.out)⟩⟩
        · rw [if_neg c6] at H
          exact absurd H (by simp)
      · rw [if_neg c5] at H
        have c5b0 : decide (x11_1 < 32) = false := decide_eq_false c5
        clear c5
        obtain ⟨y107, hy107⟩ : ∃ y_ : List (S32), y_ = (([(⟨9, a1, 0, 0, ([] : List Int)⟩ : S32), (⟨6, 0, 0, 0, ([] : List Int)⟩ : S32)] : List (S32))) := ⟨_, rfl⟩
        replace H : (if x5_1.length + y107.length < 2513169434916 then (some (x5_1 ++ y107)) else (none)) = some r := by first | (rw [hy107]; with_reducible exact H) | (have H2_ := (Option.bind_some _ _).symm.trans H; rw [hy107]; with_reducible exact H2_) | (have H2_ := (Option.bind_some _ _).symm.trans H; with_reducible exact H2_) | with_reducible exact H | (rw [hy107]; exact H) | exact H
        have Ny107 := Aside0.mk hy107
        clear hy107
        by_cases c8 : x5_1.length + y107.length < 2513169434916
        · rw [if_pos c8] at H
          have LMc8 := Aside0.mk c8
          clear c8
          obtain ⟨y110, hy110⟩ : ∃ y_ : List (S32), y_ = (x5_1 ++ y107) := ⟨_, rfl⟩
          replace H : (some y110) = some r := by first | (rw [hy110]; with_reducible exact H) | (have H2_ := (Option.bind_some _ _).symm.trans H; rw [hy110]; with_reducible exact H2_) | (have H2_ := (Option.bind_some _ _).symm.trans H; with_reducible exact H2_) | with_reducible exact H | (rw [hy110]; exact H) | exact H
          have Ny110 := Aside0.mk hy110
          clear hy110
          obtain rfl := Option.some.inj H
          go_wp2_with (first | ((with_reducible refine gate_dst (N := 22) rfl ?_); refine Kd.N_lit k32 _ 32 ?hg (N' := 22) ?hd (xs := ([(⟨9, a1, 0, 0, ([] : List Int)⟩ : S32), (⟨6, 0, 0, 0, ([] : List Int)⟩ : S32)] : List (S32))) (inner := [.int .i64 9, .int .i64 a1, .int .i64 0, .int .i64 0, .slice none 0 0, .int .i64 6, .int .i64 0, .int .i64 0, .int .i64 0, .slice none 0 0]) (ok := (fun k_ => (w.heap.size ≤ k_) ∧ some k_ ≠ (u5 : Value).ownBlock)) (okp := (fun k_ => (w.heap.size ≤ k_) ∧ some k_ ≠ (u5 : Value).ownBlock)) ?hr ?hp (fun _ hk => hk) ((show ∀ k_, wr.heap.size ≤ k_ → (fun k_ => (w.heap.size ≤ k_) ∧ some k_ ≠ (u5 : Value).ownBlock) k_ from fun k_ hk => ⟨(Nat.le_trans (below_size (by repeat (first | (with_reducible first | exact HB.out | apply below_alloc | apply pw_below_drewN | apply below_drew1) | exact HB.out))) hk), Kd.fresh' (Kd.N_lt (by (with_reducible repeat (first | apply Kd.N_alloc | apply Kd.N_drewN | apply Kd.N_drew)); exact HO_5.out)) k_ hk⟩) _ (Nat.le_refl _)) (Below.refl _ _) (Nat.le_refl _) (by simp) ?_; (case hd => rfl); (case hg => rfl); (case hr => first | (go_simp; done) | (go_simp; rfl)); (case hp => exact (Reps.c5 (show Kd.FK k32 _ _ (⟨9, a1, 0, 0, ([] : List Int)⟩ : S32) [.int .i64 9, .int .i64 a1, .int .i64 0, .int .i64 0, .slice none 0 0] from (k32_mkF _ _ (⟨9, a1, 0, 0, ([] : List Int)⟩ : S32) (Nat.le_refl _) (Kd.F_nil _ _ _))) (Reps.c5 (show Kd.FK k32 _ _ (⟨6, 0, 0, 0, ([] : List Int)⟩ : S32) [.int .i64 6, .int .i64 0, .int .i64 0, .int .i64 0, .slice none 0 0] from (k32_mkF _ _ (⟨6, 0, 0, 0, ([] : List Int)⟩ : S32) (Nat.le_refl _) (Kd.F_nil _ _ _))) (Reps.none _ _)))); intro v108 w9 ho10 hb hg_ hnew_; clear hg_ hnew_; (first | rw [← Ny107.out] at ho10 | (simp only [Int.reduceToNat] at ho10; rw [← Ny107.out] at ho10)); have n0_ := Aside0.mk (Kd.N_elder' (by (with_reducible repeat (first | apply Kd.N_alloc | apply Kd.N_drewN | apply Kd.N_drew)); exact HO_5.out) (Kd.N_base ho10) hb); have n1_ := Aside0.mk (Kd.N_lower ho10 (below_size (by repeat (first | (with_reducible first | exact HB.out | apply below_alloc | apply pw_below_drewN | apply below_drew1) | exact HB.out)))); have n2_ := Aside0.mk (below_step (by repeat (first | (with_reducible first | exact HB.out | apply below_alloc | apply pw_below_drewN | apply below_drew1) | exact HB.out)) hb); clear HO_5; clear HB; have HO_5 := n0_; have HO109 := n1_; have HB := n2_; clear n0_ n1_ n2_; clear hb ho10; obtain ⟨Ao12, co12, eo12⟩ := Kd.N_slice HO109.out; subst eo12) | ((with_reducible refine gate_builtin (b := .append) (xs := #[.tmp 18, .tmp 22]) rfl ?_); at_builtin; refine Kd.N_append_rows k32 (w0 := w) w.heap.size rfl (.tmp 18) (.tmp 22) 25 32 (.agg #[(.int .i64 0), (.int .i64 0), (.int .i64 0), (.int .i64 0), (.slice none 0 0)]) 56 rfl Try.underlying25 info32 rfl (by decide) (by omega) u5 x5_1 y107 _ _ _ (fun k_ => (w.heap.size ≤ k_)) (fun k_ => ((fun k_ => (w.heap.size ≤ k_))) k_ ∧ some k_ ≠ (u5 : Value).ownBlock) rfl rfl ?aO ?aR (fun _ hk => hk) ?aF ?aB ?aS ?aL ?_; (case aR => exact (by skip; exact Kd.N_F (Kd.N_mono (ok' := (fun k_ => ((fun k_ => (w.heap.size ≤ k_))) k_ ∧ some k_ ≠ (u5 : Value).ownBlock)) (HO109.out) (fun k_ hk => ⟨hk.1, hk.2⟩)))); (case aB => exact (by repeat (first | (with_reducible first | exact HB.out | apply below_alloc | apply pw_below_drewN | apply below_drew1) | exact HB.out))); (case aF => exact (fun k_ hk => (Nat.le_trans (below_size (by repeat (first | (with_reducible first | exact HB.out | apply below_alloc | apply pw_below_drewN | apply below_drew1) | exact HB.out))) hk))); (case aO => exact (by (with_reducible repeat (first | apply Kd.N_alloc | apply Kd.N_drewN | apply Kd.N_drew)); exact Kd.N_mono HO_5.out (fun _ hk => hk.1))); (case aS => exact (below_size (by repeat (first | (with_reducible first | exact HB.out | apply below_alloc | apply pw_below_drewN | apply below_drew1) | exact HB.out)))); (case aL => have := LMc8.out; omega); intro v111 w11 ho hb hg hat; rw [← Ny110.out] at ho; have n0_ := Aside0.mk (Kd.N_afterv (ok := (fun k_ => (w.heap.size ≤ k_))) (by (with_reducible repeat (first | apply Kd.N_alloc | apply Kd.N_drewN | apply Kd.N_drew)); exact HO109.out) hg hat); have n1_ := Aside0.mk (hb); have n2_ := Aside0.mk (ho); clear HO109; clear HB; clear HO_5; have HO109 := n0_; have HB := n1_; have HO112 := n2_; clear n0_ n1_ n2_; clear ho hb hg hat))
          go_ret
          exact ⟨_, by first | rfl | (simp [errW_none, errW_some] <;> rfl) | (simp [*, errW_none, errW_some] <;> rfl), by (with_reducible repeat (first | apply Kd.N_alloc | apply Kd.N_drewN | apply Kd.N_drew)); exact HO112.out, by repeat (first | (with_reducible first | exact HB.out | apply below_alloc | apply pw_below_drewN | apply below_drew1) | exact HB.out)⟩
        · rw [if_neg c8] at H
          exact absurd H (by simp)

/-! ### broadsheetlaw27_same: function 5 -/
def broadsheetlaw27_same.l0 : Nat → List (S32) → List (S32) → Int → Option (Bool)
  | 0, _, _, _ => none
  | k + 1, x0, x1, x5 => if x5 < (x0.length : Int) then (if 0 ≤ x5 then (if x5 < (x1.length : Int) then (if ((rd_T32 x0 x5).f0) = ((rd_T32 x1 x5).f0) then (if ((rd_T32 x0 x5).f1) = ((rd_T32 x1 x5).f1) then (if ((rd_T32 x0 x5).f2) = ((rd_T32 x1 x5).f2) then (if ((rd_T32 x0 x5).f3) = ((rd_T32 x1 x5).f3) then (if (strOfNums ((rd_T32 x0 x5).f4)).toList = (strOfNums ((rd_T32 x1 x5).f4)).toList then (broadsheetlaw27_same.l0 k x0 x1 (wrap64 (x5 + 1))) else (some false)) else (some false)) else (some false)) else (some false)) else (some false)) else (none)) else (none)) else (some true)
def broadsheetlaw27_same.f (k : Nat) (l0 : List (S32)) (l1 : List (S32)) : Option (Bool) := if (l0.length : Int) = (l1.length : Int) then (broadsheetlaw27_same.l0 k l0 l1 0) else (some false)
theorem broadsheetlaw27_same.mono_l : ∀ k, (∀ y0 y1 y2, LeO (broadsheetlaw27_same.l0 k y0 y1 y2) (broadsheetlaw27_same.l0 (k + 1) y0 y1 y2))
  | 0 => fun _ _ _ r h => by simp [broadsheetlaw27_same.l0] at h
  | k + 1 => by
    have ih0 := broadsheetlaw27_same.mono_l k
    · intro y0 y1 y2
      unfold broadsheetlaw27_same.l0
      repeat' first
      | (with_reducible exact ih0 _ _ _)
      | (with_reducible exact LeO.refl _)
      | (with_reducible exact LeO.none _)
      | (with_reducible refine LeO.ite ?_ ?_)
      | (with_reducible refine LeO.bind ?_ (fun _ => ?_))
      | exact ih0 _ _ _
      | exact LeO.none _
      | refine LeO.ite ?_ ?_
      | refine LeO.bind ?_ (fun _ => ?_)
theorem broadsheetlaw27_same.mono : ∀ a0 a1 k, LeO (broadsheetlaw27_same.f k a0 a1) (broadsheetlaw27_same.f (k + 1) a0 a1) := by
  intro a0 a1 k
  have ih0 := broadsheetlaw27_same.mono_l k
  unfold broadsheetlaw27_same.f
  repeat' first
      | (with_reducible exact ih0 _ _ _)
      | (with_reducible exact LeO.refl _)
      | (with_reducible exact LeO.none _)
      | (with_reducible refine LeO.ite ?_ ?_)
      | (with_reducible refine LeO.bind ?_ (fun _ => ?_))
      | exact ih0 _ _ _
      | exact LeO.none _
      | refine LeO.ite ?_ ?_
      | refine LeO.bind ?_ (fun _ => ?_)
set_option maxHeartbeats 8000000 in
set_option maxRecDepth 100000 in
theorem broadsheetlaw27_same.calls (k : Nat) (A0 : Option Addr) (c0 : Nat) (l0 : List (S32)) (A1 : Option Addr) (c1 : Nat) (l1 : List (S32)) (r : Bool) (w : World) (hr0 : Kd.C k32 w A0 l0.length l0) (hc0 : l0.length ≤ c0) (hr1 : Kd.C k32 w A1 l1.length l1) (hc1 : l1.length ≤ c1) (h : broadsheetlaw27_same.f k l0 l1 = some r) :
    Calls Try.prog 5 #[.slice A0 l0.length c0, .slice A1 l1.length c1] w fun e w' => e = .returned (.bool r) ∧ Drawn0 w w' := by
  have HR0 := Aside0.mk hr0
  have HC0 := Aside0.mk hc0
  clear hr0 hc0
  have HR1 := Aside0.mk hr1
  have HC1 := Aside0.mk hc1
  clear hr1 hc1
  have H : (if (l0.length : Int) = (l1.length : Int) then (broadsheetlaw27_same.l0 k l0 l1 0) else (some false)) = some r := h
  clear h
  by_cases c3 : (l0.length : Int) = (l1.length : Int)
  · rw [if_pos c3] at H
    have c3b0 : ((l0.length : Int) == (l1.length : Int)) = true := beq_iff_eq.mpr c3
    have c3b1 : ((l0.length : Int) != (l1.length : Int)) = false := bne_eq_false_iff_eq.mpr c3
    have c3b2 : (l0.length == l1.length) = true := by first | simpa using c3 | (simp at c3 ⊢; omega)
    clear c3
    have H' := Aside0.mk H
    clear H
    go_enter Try.func5, Try.ntmps5
    go_wp2
    repeat ((first | (go_quiet (fail)) | (refine wp_region_quiet_lit (by kernel_rfl) (by kernel_rfl) ?_; simp only [List.append_eq, List.cons_append, List.nil_append]; repeat (go_big_quiet_step (fail)); refine wpQuiet_nil ?_; intro _ hw'; obtain ⟨nq, hw''⟩ := hw'; subst hw'')); try go_wp2)
    go_loopg [5] k (fun kq v5 w' => ∃ (x5_1 : Int), v5 = .int .i64 x5_1 ∧ Aside0 (broadsheetlaw27_same.l0 kq l0 l1 x5_1 = some r) ∧ Aside0 (kq ≤ k) ∧ Drawn0 w w')
    case atStart => exact ⟨(0), (by first | rfl | (simp; done) | (simp [*]; done)), H', ⟨Nat.le_refl _⟩, by repeat (first | exact Drawn0.refl _ | apply Drawn0.step)⟩
    case round =>
      clear H'
      try clear c1
      try clear p2
      try clear c3
      try clear c3b0
      try clear c3b1
      try clear c3b2
      obtain ⟨x5_1, rfl, HA, HK1, ⟨m1, rfl⟩⟩ := hrel
      cases gk with
      | zero => exact absurd HA.out (by simp [broadsheetlaw27_same.l0])
      | succ k1 =>
        have H := HA.out
        clear HA
        simp only [broadsheetlaw27_same.l0] at H
        by_cases c4 : x5_1 < (l0.length : Int)
        · rw [if_pos c4] at H
          have c4b0 : decide (x5_1 < (l0.length : Int)) = true := decide_eq_true c4
          clear c4
          by_cases c5 : 0 ≤ x5_1
          · rw [if_pos c5] at H
            have c5b0 : decide (0 ≤ x5_1) = true := decide_eq_true c5
            clear c5
            by_cases c6 : x5_1 < (l1.length : Int)
            · rw [if_pos c6] at H
              have c6b0 : decide (x5_1 < (l1.length : Int)) = true := decide_eq_true c6
              clear c6
              by_cases c7 : ((rd_T32 l0 x5_1).f0) = ((rd_T32 l1 x5_1).f0)
              · rw [if_pos c7] at H
                have c7b0 : (((rd_T32 l0 x5_1).f0) == ((rd_T32 l1 x5_1).f0)) = true := beq_iff_eq.mpr c7
                have c7b1 : (((rd_T32 l0 x5_1).f0) != ((rd_T32 l1 x5_1).f0)) = false := bne_eq_false_iff_eq.mpr c7
                clear c7
                by_cases c8 : ((rd_T32 l0 x5_1).f1) = ((rd_T32 l1 x5_1).f1)
                · rw [if_pos c8] at H
                  have c8b0 : (((rd_T32 l0 x5_1).f1) == ((rd_T32 l1 x5_1).f1)) = true := beq_iff_eq.mpr c8
                  have c8b1 : (((rd_T32 l0 x5_1).f1) != ((rd_T32 l1 x5_1).f1)) = false := bne_eq_false_iff_eq.mpr c8
                  clear c8
                  by_cases c9 : ((rd_T32 l0 x5_1).f2) = ((rd_T32 l1 x5_1).f2)
                  · rw [if_pos c9] at H
                    have c9b0 : (((rd_T32 l0 x5_1).f2) == ((rd_T32 l1 x5_1).f2)) = true := beq_iff_eq.mpr c9
                    have c9b1 : (((rd_T32 l0 x5_1).f2) != ((rd_T32 l1 x5_1).f2)) = false := bne_eq_false_iff_eq.mpr c9
                    clear c9
                    by_cases c10 : ((rd_T32 l0 x5_1).f3) = ((rd_T32 l1 x5_1).f3)
                    · rw [if_pos c10] at H
                      have c10b0 : (((rd_T32 l0 x5_1).f3) == ((rd_T32 l1 x5_1).f3)) = true := beq_iff_eq.mpr c10
                      have c10b1 : (((rd_T32 l0 x5_1).f3) != ((rd_T32 l1 x5_1).f3)) = false := bne_eq_false_iff_eq.mpr c10
                      clear c10
                      by_cases c11 : (strOfNums ((rd_T32 l0 x5_1).f4)).toList = (strOfNums ((rd_T32 l1 x5_1).f4)).toList
                      · rw [if_pos c11] at H
                        have c11b0 : ((strOfNums ((rd_T32 l0 x5_1).f4)).toList == (strOfNums ((rd_T32 l1 x5_1).f4)).toList) = true := beq_iff_eq.mpr c11
                        have c11b1 : ((strOfNums ((rd_T32 l0 x5_1).f4)).toList != (strOfNums ((rd_T32 l1 x5_1).f4)).toList) = false := bne_eq_false_iff_eq.mpr c11
                        clear c11
                        have H' := Aside0.mk H
                        clear H
                        have p113 : 0 ≤ (x5_1 : Int) := of_decide_eq_true (by first | (with_reducible assumption) | assumption)
                        have q113 : x5_1 < (l0.length : Int) := of_decide_eq_true (by first | (with_reducible assumption) | assumption)
                        obtain ⟨ad113, A113_4, c113_4, e113, hx113_0, hx113_1, hx113_2, hx113_3, hx113_4, hl113_4, hi113_4⟩ := at_T32 HR0.out x5_1 p113 q113
                        cases e113
                        have HR113_4 := Aside0.mk hi113_4
                        have HC113_4 := Aside0.mk hl113_4
                        clear hi113_4 hl113_4
                        replace p113 := eq_true p113
                        replace q113 := eq_true q113
                        have p114 : 0 ≤ (x5_1 : Int) := of_decide_eq_true (by first | (with_reducible assumption) | assumption)
                        have q114 : x5_1 < (l1.length : Int) := of_decide_eq_true (by first | (with_reducible assumption) | assumption)
                        obtain ⟨ad114, A114_4, c114_4, e114, hx114_0, hx114_1, hx114_2, hx114_3, hx114_4, hl114_4, hi114_4⟩ := at_T32 HR1.out x5_1 p114 q114
                        cases e114
                        have HR114_4 := Aside0.mk hi114_4
                        have HC114_4 := Aside0.mk hl114_4
                        clear hi114_4 hl114_4
                        replace p114 := eq_true p114
                        replace q114 := eq_true q114
                        have p115 : 0 ≤ (x5_1 : Int) := of_decide_eq_true (by first | (with_reducible assumption) | assumption)
                        have q115 : x5_1 < (l0.length : Int) := of_decide_eq_true (by first | (with_reducible assumption) | assumption)
                        obtain ⟨ad115, A115_4, c115_4, e115, hx115_0, hx115_1, hx115_2, hx115_3, hx115_4, hl115_4, hi115_4⟩ := at_T32 HR0.out x5_1 p115 q115
                        obtain rfl : ad113 = ad115 := (by injection e115)
                        have HR115_4 := Aside0.mk hi115_4
                        have HC115_4 := Aside0.mk hl115_4
                        clear hi115_4 hl115_4
                        replace p115 := eq_true p115
                        replace q115 := eq_true q115
                        have ea_ := Option.some.inj (hx113_4.symm.trans hx115_4)
                        injection ea_ with ea_ en_ ec_
                        subst ea_
                        subst ec_
                        clear en_
                        have p116 : 0 ≤ (x5_1 : Int) := of_decide_eq_true (by first | (with_reducible assumption) | assumption)
                        have q116 : x5_1 < (l1.length : Int) := of_decide_eq_true (by first | (with_reducible assumption) | assumption)
                        obtain ⟨ad116, A116_4, c116_4, e116, hx116_0, hx116_1, hx116_2, hx116_3, hx116_4, hl116_4, hi116_4⟩ := at_T32 HR1.out x5_1 p116 q116
                        obtain rfl : ad114 = ad116 := (by injection e116)
                        have HR116_4 := Aside0.mk hi116_4
                        have HC116_4 := Aside0.mk hl116_4
                        clear hi116_4 hl116_4
                        replace p116 := eq_true p116
                        replace q116 := eq_true q116
                        have ea_ := Option.some.inj (hx114_4.symm.trans hx116_4)
                        injection ea_ with ea_ en_ ec_
                        subst ea_
                        subst ec_
                        clear en_
                        have p117 : 0 ≤ (x5_1 : Int) := of_decide_eq_true (by first | (with_reducible assumption) | assumption)
                        have q117 : x5_1 < (l0.length : Int) := of_decide_eq_true (by first | (with_reducible assumption) | assumption)
                        obtain ⟨ad117, A117_4, c117_4, e117, hx117_0, hx117_1, hx117_2, hx117_3, hx117_4, hl117_4, hi117_4⟩ := at_T32 HR0.out x5_1 p117 q117
                        obtain rfl : ad113 = ad117 := (by injection e117)
                        have HR117_4 := Aside0.mk hi117_4
                        have HC117_4 := Aside0.mk hl117_4
                        clear hi117_4 hl117_4
                        replace p117 := eq_true p117
                        replace q117 := eq_true q117
                        have ea_ := Option.some.inj (hx113_4.symm.trans hx117_4)
                        injection ea_ with ea_ en_ ec_
                        subst ea_
                        subst ec_
                        clear en_
                        have p118 : 0 ≤ (x5_1 : Int) := of_decide_eq_true (by first | (with_reducible assumption) | assumption)
                        have q118 : x5_1 < (l1.length : Int) := of_decide_eq_true (by first | (with_reducible assumption) | assumption)
                        obtain ⟨ad118, A118_4, c118_4, e118, hx118_0, hx118_1, hx118_2, hx118_3, hx118_4, hl118_4, hi118_4⟩ := at_T32 HR1.out x5_1 p118 q118
                        obtain rfl : ad114 = ad118 := (by injection e118)
                        have HR118_4 := Aside0.mk hi118_4
                        have HC118_4 := Aside0.mk hl118_4
                        clear hi118_4 hl118_4
                        replace p118 := eq_true p118
                        replace q118 := eq_true q118
                        have ea_ := Option.some.inj (hx114_4.symm.trans hx118_4)
                        injection ea_ with ea_ en_ ec_
                        subst ea_
                        subst ec_
                        clear en_
                        have p119 : 0 ≤ (x5_1 : Int) := of_decide_eq_true (by first | (with_reducible assumption) | assumption)
                        have q119 : x5_1 < (l0.length : Int) := of_decide_eq_true (by first | (with_reducible assumption) | assumption)
                        obtain ⟨ad119, A119_4, c119_4, e119, hx119_0, hx119_1, hx119_2, hx119_3, hx119_4, hl119_4, hi119_4⟩ := at_T32 HR0.out x5_1 p119 q119
                        obtain rfl : ad113 = ad119 := (by injection e119)
                        have HR119_4 := Aside0.mk hi119_4
                        have HC119_4 := Aside0.mk hl119_4
                        clear hi119_4 hl119_4
                        replace p119 := eq_true p119
                        replace q119 := eq_true q119
                        have ea_ := Option.some.inj (hx113_4.symm.trans hx119_4)
                        injection ea_ with ea_ en_ ec_
                        subst ea_
                        subst ec_
                        clear en_
                        have p120 : 0 ≤ (x5_1 : Int) := of_decide_eq_true (by first | (with_reducible assumption) | assumption)
                        have q120 : x5_1 < (l1.length : Int) := of_decide_eq_true (by first | (with_reducible assumption) | assumption)
                        obtain ⟨ad120, A120_4, c120_4, e120, hx120_0, hx120_1, hx120_2, hx120_3, hx120_4, hl120_4, hi120_4⟩ := at_T32 HR1.out x5_1 p120 q120
                        obtain rfl : ad114 = ad120 := (by injection e120)
                        have HR120_4 := Aside0.mk hi120_4
                        have HC120_4 := Aside0.mk hl120_4
                        clear hi120_4 hl120_4
                        replace p120 := eq_true p120
                        replace q120 := eq_true q120
                        have ea_ := Option.some.inj (hx114_4.symm.trans hx120_4)
                        injection ea_ with ea_ en_ ec_
                        subst ea_
                        subst ec_
                        clear en_
                        have p121 : 0 ≤ (x5_1 : Int) := of_decide_eq_true (by first | (with_reducible assumption) | assumption)
                        have q121 : x5_1 < (l0.length : Int) := of_decide_eq_true (by first | (with_reducible assumption) | assumption)
                        obtain ⟨ad121, A121_4, c121_4, e121, hx121_0, hx121_1, hx121_2, hx121_3, hx121_4, hl121_4, hi121_4⟩ := at_T32 HR0.out x5_1 p121 q121
                        obtain rfl : ad113 = ad121 := (by injection e121)
                        have HR121_4 := Aside0.mk hi121_4
                        have HC121_4 := Aside0.mk hl121_4
                        clear hi121_4 hl121_4
                        replace p121 := eq_true p121
                        replace q121 := eq_true q121
                        have ea_ := Option.some.inj (hx113_4.symm.trans hx121_4)
                        injection ea_ with ea_ en_ ec_
                        subst ea_
                        subst ec_
                        clear en_
                        have hcv12 := fun m_ : Nat => Kd.C_string (w := w.drewN m_) (P := Try.prog) (A := A113_4) (c := c113_4) Try.underlying30 Try.underlying5 Try.underlying9 (Kd.C_below HR121_4.out (pw_below_drewN (Below.refl _ _) m_))
                        have p122 : 0 ≤ (x5_1 : Int) := of_decide_eq_true (by first | (with_reducible assumption) | assumption)
                        have q122 : x5_1 < (l1.length : Int) := of_decide_eq_true (by first | (with_reducible assumption) | assumption)
                        obtain ⟨ad122, A122_4, c122_4, e122, hx122_0, hx122_1, hx122_2, hx122_3, hx122_4, hl122_4, hi122_4⟩ := at_T32 HR1.out x5_1 p122 q122
                        obtain rfl : ad114 = ad122 := (by injection e122)
                        have HR122_4 := Aside0.mk hi122_4
                        have HC122_4 := Aside0.mk hl122_4
                        clear hi122_4 hl122_4
                        replace p122 := eq_true p122
                        replace q122 := eq_true q122
                        have ea_ := Option.some.inj (hx114_4.symm.trans hx122_4)
                        injection ea_ with ea_ en_ ec_
                        subst ea_
                        subst ec_
                        clear en_
                        have hcv13 := fun m_ : Nat => Kd.C_string (w := w.drewN m_) (P := Try.prog) (A := A114_4) (c := c114_4) Try.underlying30 Try.underlying5 Try.underlying9 (Kd.C_below HR122_4.out (pw_below_drewN (Below.refl _ _) m_))
                        go_wp2
                        repeat ((first | (go_quiet (fail)) | (refine wp_region_quiet_lit (by kernel_rfl) (by kernel_rfl) ?_; simp only [List.append_eq, List.cons_append, List.nil_append]; repeat (go_big_quiet_step (fail)); refine wpQuiet_nil ?_; intro _ hw'; obtain ⟨nq, hw''⟩ := hw'; subst hw'')); try go_wp2)
                        go_roundg k1
                        case measure => have := HK1.out; omega
                        case rel => exact ⟨(wrap64 (x5_1 + 1)), (by first | rfl | (simp; done) | (simp [*]; done)), H', ⟨by have := HK1.out; omega⟩, by repeat (first | exact Drawn0.refl _ | apply Drawn0.step)⟩
                      · rw [if_neg c11] at H
                        have c11b0 : ((strOfNums ((rd_T32 l0 x5_1).f4)).toList == (strOfNums ((rd_T32 l1 x5_1).f4)).toList) = false := beq_eq_false_iff_ne.mpr c11
                        have c11b1 : ((strOfNums ((rd_T32 l0 x5_1).f4)).toList != (strOfNums ((rd_T32 l1 x5_1).f4)).toList) = true := bne_iff_ne.mpr c11
                        obtain rfl := Option.some.inj H
                        have p113 : 0 ≤ (x5_1 : Int) := of_decide_eq_true (by first | (with_reducible assumption) | assumption)
                        have q113 : x5_1 < (l0.length : Int) := of_decide_eq_true (by first | (with_reducible assumption) | assumption)
                        obtain ⟨ad113, A113_4, c113_4, e113, hx113_0, hx113_1, hx113_2, hx113_3, hx113_4, hl113_4, hi113_4⟩ := at_T32 HR0.out x5_1 p113 q113
                        cases e113
                        have HR113_4 := Aside0.mk hi113_4
                        have HC113_4 := Aside0.mk hl113_4
                        clear hi113_4 hl113_4
                        replace p113 := eq_true p113
                        replace q113 := eq_true q113
                        have p114 : 0 ≤ (x5_1 : Int) := of_decide_eq_true (by first | (with_reducible assumption) | assumption)
                        have q114 : x5_1 < (l1.length : Int) := of_decide_eq_true (by first | (with_reducible assumption) | assumption)
                        obtain ⟨ad114, A114_4, c114_4, e114, hx114_0, hx114_1, hx114_2, hx114_3, hx114_4, hl114_4, hi114_4⟩ := at_T32 HR1.out x5_1 p114 q114
                        cases e114
                        have HR114_4 := Aside0.mk hi114_4
                        have HC114_4 := Aside0.mk hl114_4
                        clear hi114_4 hl114_4
                        replace p114 := eq_true p114
                        replace q114 := eq_true q114
                        have p115 : 0 ≤ (x5_1 : Int) := of_decide_eq_true (by first | (with_reducible assumption) | assumption)
                        have q115 : x5_1 < (l0.length : Int) := of_decide_eq_true (by first | (with_reducible assumption) | assumption)
                        obtain ⟨ad115, A115_4, c115_4, e115, hx115_0, hx115_1, hx115_2, hx115_3, hx115_4, hl115_4, hi115_4⟩ := at_T32 HR0.out x5_1 p115 q115
                        obtain rfl : ad113 = ad115 := (by injection e115)
                        have HR115_4 := Aside0.mk hi115_4
                        have HC115_4 := Aside0.mk hl115_4
                        clear hi115_4 hl115_4
                        replace p115 := eq_true p115
                        replace q115 := eq_true q115
                        have ea_ := Option.some.inj (hx113_4.symm.trans hx115_4)
                        injection ea_ with ea_ en_ ec_
                        subst ea_
                        subst ec_
                        clear en_
                        have p116 : 0 ≤ (x5_1 : Int) := of_decide_eq_true (by first | (with_reducible assumption) | assumption)
                        have q116 : x5_1 < (l1.length : Int) := of_decide_eq_true (by first | (with_reducible assumption) | assumption)
                        obtain ⟨ad116, A116_4, c116_4, e116, hx116_0, hx116_1, hx116_2, hx116_3, hx116_4, hl116_4, hi116_4⟩ := at_T32 HR1.out x5_1 p116 q116
                        obtain rfl : ad114 = ad116 := (by injection e116)
                        have HR116_4 := Aside0.mk hi116_4
                        have HC116_4 := Aside0.mk hl116_4
                        clear hi116_4 hl116_4
                        replace p116 := eq_true p116
                        replace q116 := eq_true q116
                        have ea_ := Option.some.inj (hx114_4.symm.trans hx116_4)
                        injection ea_ with ea_ en_ ec_
                        subst ea_
                        subst ec_
                        clear en_
                        have p117 : 0 ≤ (x5_1 : Int) := of_decide_eq_true (by first | (with_reducible assumption) | assumption)
                        have q117 : x5_1 < (l0.length : Int) := of_decide_eq_true (by first | (with_reducible assumption) | assumption)
                        obtain ⟨ad117, A117_4, c117_4, e117, hx117_0, hx117_1, hx117_2, hx117_3, hx117_4, hl117_4, hi117_4⟩ := at_T32 HR0.out x5_1 p117 q117
                        obtain rfl : ad113 = ad117 := (by injection e117)
                        have HR117_4 := Aside0.mk hi117_4
                        have HC117_4 := Aside0.mk hl117_4
                        clear hi117_4 hl117_4
                        replace p117 := eq_true p117
                        replace q117 := eq_true q117
                        have ea_ := Option.some.inj (hx113_4.symm.trans hx117_4)
                        injection ea_ with ea_ en_ ec_
                        subst ea_
                        subst ec_
                        clear en_
                        have p118 : 0 ≤ (x5_1 : Int) := of_decide_eq_true (by first | (with_reducible assumption) | assumption)
                        have q118 : x5_1 < (l1.length : Int) := of_decide_eq_true (by first | (with_reducible assumption) | assumption)
                        obtain ⟨ad118, A118_4, c118_4, e118, hx118_0, hx118_1, hx118_2, hx118_3, hx118_4, hl118_4, hi118_4⟩ := at_T32 HR1.out x5_1 p118 q118
                        obtain rfl : ad114 = ad118 := (by injection e118)
                        have HR118_4 := Aside0.mk hi118_4
                        have HC118_4 := Aside0.mk hl118_4
                        clear hi118_4 hl118_4
                        replace p118 := eq_true p118
                        replace q118 := eq_true q118
                        have ea_ := Option.some.inj (hx114_4.symm.trans hx118_4)
                        injection ea_ with ea_ en_ ec_
                        subst ea_
                        subst ec_
                        clear en_
                        have p119 : 0 ≤ (x5_1 : Int) := of_decide_eq_true (by first | (with_reducible assumption) | assumption)
                        have q119 : x5_1 < (l0.length : Int) := of_decide_eq_true (by first | (with_reducible assumption) | assumption)
                        obtain ⟨ad119, A119_4, c119_4, e119, hx119_0, hx119_1, hx119_2, hx119_3, hx119_4, hl119_4, hi119_4⟩ := at_T32 HR0.out x5_1 p119 q119
                        obtain rfl : ad113 = ad119 := (by injection e119)
                        have HR119_4 := Aside0.mk hi119_4
                        have HC119_4 := Aside0.mk hl119_4
                        clear hi119_4 hl119_4
                        replace p119 := eq_true p119
                        replace q119 := eq_true q119
                        have ea_ := Option.some.inj (hx113_4.symm.trans hx119_4)
                        injection ea_ with ea_ en_ ec_
                        subst ea_
                        subst ec_
                        clear en_
                        have p120 : 0 ≤ (x5_1 : Int) := of_decide_eq_true (by first | (with_reducible assumption) | assumption)
                        have q120 : x5_1 < (l1.length : Int) := of_decide_eq_true (by first | (with_reducible assumption) | assumption)
                        obtain ⟨ad120, A120_4, c120_4, e120, hx120_0, hx120_1, hx120_2, hx120_3, hx120_4, hl120_4, hi120_4⟩ := at_T32 HR1.out x5_1 p120 q120
                        obtain rfl : ad114 = ad120 := (by injection e120)
                        have HR120_4 := Aside0.mk hi120_4
                        have HC120_4 := Aside0.mk hl120_4
                        clear hi120_4 hl120_4
                        replace p120 := eq_true p120
                        replace q120 := eq_true q120
                        have ea_ := Option.some.inj (hx114_4.symm.trans hx120_4)
                        injection ea_ with ea_ en_ ec_
                        subst ea_
                        subst ec_
                        clear en_
                        have p121 : 0 ≤ (x5_1 : Int) := of_decide_eq_true (by first | (with_reducible assumption) | assumption)
                        have q121 : x5_1 < (l0.length : Int) := of_decide_eq_true (by first | (with_reducible assumption) | assumption)
                        obtain ⟨ad121, A121_4, c121_4, e121, hx121_0, hx121_1, hx121_2, hx121_3, hx121_4, hl121_4, hi121_4⟩ := at_T32 HR0.out x5_1 p121 q121
                        obtain rfl : ad113 = ad121 := (by injection e121)
                        have HR121_4 := Aside0.mk hi121_4
                        have HC121_4 := Aside0.mk hl121_4
                        clear hi121_4 hl121_4
                        replace p121 := eq_true p121
                        replace q121 := eq_true q121
                        have ea_ := Option.some.inj (hx113_4.symm.trans hx121_4)
                        injection ea_ with ea_ en_ ec_
                        subst ea_
                        subst ec_
                        clear en_
                        have hcv14 := fun m_ : Nat => Kd.C_string (w := w.drewN m_) (P := Try.prog) (A := A113_4) (c := c113_4) Try.underlying30 Try.underlying5 Try.underlying9 (Kd.C_below HR121_4.out (pw_below_drewN (Below.refl _ _) m_))
                        have p122 : 0 ≤ (x5_1 : Int) := of_decide_eq_true (by first | (with_reducible assumption) | assumption)
                        have q122 : x5_1 < (l1.length : Int) := of_decide_eq_true (by first | (with_reducible assumption) | assumption)
                        obtain ⟨ad122, A122_4, c122_4, e122, hx122_0, hx122_1, hx122_2, hx122_3, hx122_4, hl122_4, hi122_4⟩ := at_T32 HR1.out x5_1 p122 q122
                        obtain rfl : ad114 = ad122 := (by injection e122)
                        have HR122_4 := Aside0.mk hi122_4
                        have HC122_4 := Aside0.mk hl122_4
                        clear hi122_4 hl122_4
                        replace p122 := eq_true p122
                        replace q122 := eq_true q122
                        have ea_ := Option.some.inj (hx114_4.symm.trans hx122_4)
                        injection ea_ with ea_ en_ ec_
                        subst ea_
                        subst ec_
                        clear en_
                        have hcv15 := fun m_ : Nat => Kd.C_string (w := w.drewN m_) (P := Try.prog) (A := A114_4) (c := c114_4) Try.underlying30 Try.underlying5 Try.underlying9 (Kd.C_below HR122_4.out (pw_below_drewN (Below.refl _ _) m_))
                        go_wp2
                        repeat ((first | (go_quiet (fail)) | (refine wp_region_quiet_lit (by kernel_rfl) (by kernel_rfl) ?_; simp only [List.append_eq, List.cons_append, List.nil_append]; repeat (go_big_quiet_step (fail)); refine wpQuiet_nil ?_; intro _ hw'; obtain ⟨nq, hw''⟩ := hw'; subst hw'')); try go_wp2)
                        go_ret
                        exact ⟨by first | rfl | (simp; done) | (simp [*]; done), by repeat (first | exact Drawn0.refl _ | apply Drawn0.step)⟩
                    · rw [if_neg c10] at H
                      have c10b0 : (((rd_T32 l0 x5_1).f3) == ((rd_T32 l1 x5_1).f3)) = false := beq_eq_false_iff_ne.mpr c10
                      have c10b1 : (((rd_T32 l0 x5_1).f3) != ((rd_T32 l1 x5_1).f3)) = true := bne_iff_ne.mpr c10
                      obtain rfl := Option.some.inj H
                      have p113 : 0 ≤ (x5_1 : Int) := of_decide_eq_true (by first | (with_reducible assumption) | assumption)
                      have q113 : x5_1 < (l0.length : Int) := of_decide_eq_true (by first | (with_reducible assumption) | assumption)
                      obtain ⟨ad113, A113_4, c113_4, e113, hx113_0, hx113_1, hx113_2, hx113_3, hx113_4, hl113_4, hi113_4⟩ := at_T32 HR0.out x5_1 p113 q113
                      cases e113
                      have HR113_4 := Aside0.mk hi113_4
                      have HC113_4 := Aside0.mk hl113_4
                      clear hi113_4 hl113_4
                      replace p113 := eq_true p113
                      replace q113 := eq_true q113
                      have p114 : 0 ≤ (x5_1 : Int) := of_decide_eq_true (by first | (with_reducible assumption) | assumption)
                      have q114 : x5_1 < (l1.length : Int) := of_decide_eq_true (by first | (with_reducible assumption) | assumption)
                      obtain ⟨ad114, A114_4, c114_4, e114, hx114_0, hx114_1, hx114_2, hx114_3, hx114_4, hl114_4, hi114_4⟩ := at_T32 HR1.out x5_1 p114 q114
                      cases e114
                      have HR114_4 := Aside0.mk hi114_4
                      have HC114_4 := Aside0.mk hl114_4
                      clear hi114_4 hl114_4
                      replace p114 := eq_true p114
                      replace q114 := eq_true q114
                      have p115 : 0 ≤ (x5_1 : Int) := of_decide_eq_true (by first | (with_reducible assumption) | assumption)
                      have q115 : x5_1 < (l0.length : Int) := of_decide_eq_true (by first | (with_reducible assumption) | assumption)
                      obtain ⟨ad115, A115_4, c115_4, e115, hx115_0, hx115_1, hx115_2, hx115_3, hx115_4, hl115_4, hi115_4⟩ := at_T32 HR0.out x5_1 p115 q115
                      obtain rfl : ad113 = ad115 := (by injection e115)
                      have HR115_4 := Aside0.mk hi115_4
                      have HC115_4 := Aside0.mk hl115_4
                      clear hi115_4 hl115_4
                      replace p115 := eq_true p115
                      replace q115 := eq_true q115
                      have ea_ := Option.some.inj (hx113_4.symm.trans hx115_4)
                      injection ea_ with ea_ en_ ec_
                      subst ea_
                      subst ec_
                      clear en_
                      have p116 : 0 ≤ (x5_1 : Int) := of_decide_eq_true (by first | (with_reducible assumption) | assumption)
                      have q116 : x5_1 < (l1.length : Int) := of_decide_eq_true (by first | (with_reducible assumption) | assumption)
                      obtain ⟨ad116, A116_4, c116_4, e116, hx116_0, hx116_1, hx116_2, hx116_3, hx116_4, hl116_4, hi116_4⟩ := at_T32 HR1.out x5_1 p116 q116
                      obtain rfl : ad114 = ad116 := (by injection e116)
                      have HR116_4 := Aside0.mk hi116_4
                      have HC116_4 := Aside0.mk hl116_4
                      clear hi116_4 hl116_4
                      replace p116 := eq_true p116
                      replace q116 := eq_true q116
                      have ea_ := Option.some.inj (hx114_4.symm.trans hx116_4)
                      injection ea_ with ea_ en_ ec_
                      subst ea_
                      subst ec_
                      clear en_
                      have p117 : 0 ≤ (x5_1 : Int) := of_decide_eq_true (by first | (with_reducible assumption) | assumption)
                      have q117 : x5_1 < (l0.length : Int) := of_decide_eq_true (by first | (with_reducible assumption) | assumption)
                      obtain ⟨ad117, A117_4, c117_4, e117, hx117_0, hx117_1, hx117_2, hx117_3, hx117_4, hl117_4, hi117_4⟩ := at_T32 HR0.out x5_1 p117 q117
                      obtain rfl : ad113 = ad117 := (by injection e117)
                      have HR117_4 := Aside0.mk hi117_4
                      have HC117_4 := Aside0.mk hl117_4
                      clear hi117_4 hl117_4
                      replace p117 := eq_true p117
                      replace q117 := eq_true q117
                      have ea_ := Option.some.inj (hx113_4.symm.trans hx117_4)
                      injection ea_ with ea_ en_ ec_
                      subst ea_
                      subst ec_
                      clear en_
                      have p118 : 0 ≤ (x5_1 : Int) := of_decide_eq_true (by first | (with_reducible assumption) | assumption)
                      have q118 : x5_1 < (l1.length : Int) := of_decide_eq_true (by first | (with_reducible assumption) | assumption)
                      obtain ⟨ad118, A118_4, c118_4, e118, hx118_0, hx118_1, hx118_2, hx118_3, hx118_4, hl118_4, hi118_4⟩ := at_T32 HR1.out x5_1 p118 q118
                      obtain rfl : ad114 = ad118 := (by injection e118)
                      have HR118_4 := Aside0.mk hi118_4
                      have HC118_4 := Aside0.mk hl118_4
                      clear hi118_4 hl118_4
                      replace p118 := eq_true p118
                      replace q118 := eq_true q118
                      have ea_ := Option.some.inj (hx114_4.symm.trans hx118_4)
                      injection ea_ with ea_ en_ ec_
                      subst ea_
                      subst ec_
                      clear en_
                      have p119 : 0 ≤ (x5_1 : Int) := of_decide_eq_true (by first | (with_reducible assumption) | assumption)
                      have q119 : x5_1 < (l0.length : Int) := of_decide_eq_true (by first | (with_reducible assumption) | assumption)
                      obtain ⟨ad119, A119_4, c119_4, e119, hx119_0, hx119_1, hx119_2, hx119_3, hx119_4, hl119_4, hi119_4⟩ := at_T32 HR0.out x5_1 p119 q119
                      obtain rfl : ad113 = ad119 := (by injection e119)
                      have HR119_4 := Aside0.mk hi119_4
                      have HC119_4 := Aside0.mk hl119_4
                      clear hi119_4 hl119_4
                      replace p119 := eq_true p119
                      replace q119 := eq_true q119
                      have ea_ := Option.some.inj (hx113_4.symm.trans hx119_4)
                      injection ea_ with ea_ en_ ec_
                      subst ea_
                      subst ec_
                      clear en_
                      have p120 : 0 ≤ (x5_1 : Int) := of_decide_eq_true (by first | (with_reducible assumption) | assumption)
                      have q120 : x5_1 < (l1.length : Int) := of_decide_eq_true (by first | (with_reducible assumption) | assumption)
                      obtain ⟨ad120, A120_4, c120_4, e120, hx120_0, hx120_1, hx120_2, hx120_3, hx120_4, hl120_4, hi120_4⟩ := at_T32 HR1.out x5_1 p120 q120
                      obtain rfl : ad114 = ad120 := (by injection e120)
                      have HR120_4 := Aside0.mk hi120_4
                      have HC120_4 := Aside0.mk hl120_4
                      clear hi120_4 hl120_4
                      replace p120 := eq_true p120
                      replace q120 := eq_true q120
                      have ea_ := Option.some.inj (hx114_4.symm.trans hx120_4)
                      injection ea_ with ea_ en_ ec_
                      subst ea_
                      subst ec_
                      clear en_
                      go_wp2
                      repeat ((first | (go_quiet (fail)) | (refine wp_region_quiet_lit (by kernel_rfl) (by kernel_rfl) ?_; simp only [List.append_eq, List.cons_append, List.nil_append]; repeat (go_big_quiet_step (fail)); refine wpQuiet_nil ?_; intro _ hw'; obtain ⟨nq, hw''⟩ := hw'; subst hw'')); try go_wp2)
                      go_ret
                      exact ⟨by first | rfl | (simp; done) | (simp [*]; done), by repeat (first | exact Drawn0.refl _ | apply Drawn0.step)⟩
                  · rw [if_neg c9] at H
                    have c9b0 : (((rd_T32 l0 x5_1).f2) == ((rd_T32 l1 x5_1).f2)) = false := beq_eq_false_iff_ne.mpr c9
                    have c9b1 : (((rd_T32 l0 x5_1).f2) != ((rd_T32 l1 x5_1).f2)) = true := bne_iff_ne.mpr c9
                    obtain rfl := Option.some.inj H
                    have p113 : 0 ≤ (x5_1 : Int) := of_decide_eq_true (by first | (with_reducible assumption) | assumption)
                    have q113 : x5_1 < (l0.length : Int) := of_decide_eq_true (by first | (with_reducible assumption) | assumption)
                    obtain ⟨ad113, A113_4, c113_4, e113, hx113_0, hx113_1, hx113_2, hx113_3, hx113_4, hl113_4, hi113_4⟩ := at_T32 HR0.out x5_1 p113 q113
                    cases e113
                    have HR113_4 := Aside0.mk hi113_4
                    have HC113_4 := Aside0.mk hl113_4
                    clear hi113_4 hl113_4
                    replace p113 := eq_true p113
                    replace q113 := eq_true q113
                    have p114 : 0 ≤ (x5_1 : Int) := of_decide_eq_true (by first | (with_reducible assumption) | assumption)
                    have q114 : x5_1 < (l1.length : Int) := of_decide_eq_true (by first | (with_reducible assumption) | assumption)
                    obtain ⟨ad114, A114_4, c114_4, e114, hx114_0, hx114_1, hx114_2, hx114_3, hx114_4, hl114_4, hi114_4⟩ := at_T32 HR1.out x5_1 p114 q114
                    cases e114
                    have HR114_4 := Aside0.mk hi114_4
                    have HC114_4 := Aside0.mk hl114_4
                    clear hi114_4 hl114_4
                    replace p114 := eq_true p114
                    replace q114 := eq_true q114
                    have p115 : 0 ≤ (x5_1 : Int) := of_decide_eq_true (by first | (with_reducible assumption) | assumption)
                    have q115 : x5_1 < (l0.length : Int) := of_decide_eq_true (by first | (with_reducible assumption) | assumption)
                    obtain ⟨ad115, A115_4, c115_4, e115, hx115_0, hx115_1, hx115_2, hx115_3, hx115_4, hl115_4, hi115_4⟩ := at_T32 HR0.out x5_1 p115 q115
                    obtain rfl : ad113 = ad115 := (by injection e115)
                    have HR115_4 := Aside0.mk hi115_4
                    have HC115_4 := Aside0.mk hl115_4
                    clear hi115_4 hl115_4
                    replace p115 := eq_true p115
                    replace q115 := eq_true q115
                    have ea_ := Option.some.inj (hx113_4.symm.trans hx115_4)
                    injection ea_ with ea_ en_ ec_
                    subst ea_
                    subst ec_
                    clear en_
                    have p116 : 0 ≤ (x5_1 : Int) := of_decide_eq_true (by first | (with_reducible assumption) | assumption)
                    have q116 : x5_1 < (l1.length : Int) := of_decide_eq_true (by first | (with_reducible assumption) | assumption)
                    obtain ⟨ad116, A116_4, c116_4, e116, hx116_0, hx116_1, hx116_2, hx116_3, hx116_4, hl116_4, hi116_4⟩ := at_T32 HR1.out x5_1 p116 q116
                    obtain rfl : ad114 = ad116 := (by injection e116)
                    have HR116_4 := Aside0.mk hi116_4
                    have HC116_4 := Aside0.mk hl116_4
                    clear hi116_4 hl116_4
                    replace p116 := eq_true p116
                    replace q116 := eq_true q116
                    have ea_ := Option.some.inj (hx114_4.symm.trans hx116_4)
                    injection ea_ with ea_ en_ ec_
                    subst ea_
                    subst ec_
                    clear en_
                    have p117 : 0 ≤ (x5_1 : Int) := of_decide_eq_true (by first | (with_reducible assumption) | assumption)
                    have q117 : x5_1 < (l0.length : Int) := of_decide_eq_true (by first | (with_reducible assumption) | assumption)
                    obtain ⟨ad117, A117_4, c117_4, e117, hx117_0, hx117_1, hx117_2, hx117_3, hx117_4, hl117_4, hi117_4⟩ := at_T32 HR0.out x5_1 p117 q117
                    obtain rfl : ad113 = ad117 := (by injection e117)
                    have HR117_4 := Aside0.mk hi117_4
                    have HC117_4 := Aside0.mk hl117_4
                    clear hi117_4 hl117_4
                    replace p117 := eq_true p117
                    replace q117 := eq_true q117
                    have ea_ := Option.some.inj (hx113_4.symm.trans hx117_4)
                    injection ea_ with ea_ en_ ec_
                    subst ea_
                    subst ec_
                    clear en_
                    have p118 : 0 ≤ (x5_1 : Int) := of_decide_eq_true (by first | (with_reducible assumption) | assumption)
                    have q118 : x5_1 < (l1.length : Int) := of_decide_eq_true (by first | (with_reducible assumption) | assumption)
                    obtain ⟨ad118, A118_4, c118_4, e118, hx118_0, hx118_1, hx118_2, hx118_3, hx118_4, hl118_4, hi118_4⟩ := at_T32 HR1.out x5_1 p118 q118
                    obtain rfl : ad114 = ad118 := (by injection e118)
                    have HR118_4 := Aside0.mk hi118_4
                    have HC118_4 := Aside0.mk hl118_4
                    clear hi118_4 hl118_4
                    replace p118 := eq_true p118
                    replace q118 := eq_true q118
                    have ea_ := Option.some.inj (hx114_4.symm.trans hx118_4)
                    injection ea_ with ea_ en_ ec_
                    subst ea_
                    subst ec_
                    clear en_
                    go_wp2
                    repeat ((first | (go_quiet (fail)) | (refine wp_region_quiet_lit (by kernel_rfl) (by kernel_rfl) ?_; simp only [List.append_eq, List.cons_append, List.nil_append]; repeat (go_big_quiet_step (fail)); refine wpQuiet_nil ?_; intro _ hw'; obtain ⟨nq, hw''⟩ := hw'; subst hw'')); try go_wp2)
                    go_ret
                    exact ⟨by first | rfl | (simp; done) | (simp [*]; done), by repeat (first | exact Drawn0.refl _ | apply Drawn0.step)⟩
                · rw [if_neg c8] at H
                  have c8b0 : (((rd_T32 l0 x5_1).f1) == ((rd_T32 l1 x5_1).f1)) = false := beq_eq_false_iff_ne.mpr c8
                  have c8b1 : (((rd_T32 l0 x5_1).f1) != ((rd_T32 l1 x5_1).f1)) = true := bne_iff_ne.mpr c8
                  obtain rfl := Option.some.inj H
                  have p113 : 0 ≤ (x5_1 : Int) := of_decide_eq_true (by first | (with_reducible assumption) | assumption)
                  have q113 : x5_1 < (l0.length : Int) := of_decide_eq_true (by first | (with_reducible assumption) | assumption)
                  obtain ⟨ad113, A113_4, c113_4, e113, hx113_0, hx113_1, hx113_2, hx113_3, hx113_4, hl113_4, hi113_4⟩ := at_T32 HR0.out x5_1 p113 q113
                  cases e113
                  have HR113_4 := Aside0.mk hi113_4
                  have HC113_4 := Aside0.mk hl113_4
                  clear hi113_4 hl113_4
                  replace p113 := eq_true p113
                  replace q113 := eq_true q113
                  have p114 : 0 ≤ (x5_1 : Int) := of_decide_eq_true (by first | (with_reducible assumption) | assumption)
                  have q114 : x5_1 < (l1.length : Int) := of_decide_eq_true (by first | (with_reducible assumption) | assumption)
                  obtain ⟨ad114, A114_4, c114_4, e114, hx114_0, hx114_1, hx114_2, hx114_3, hx114_4, hl114_4, hi114_4⟩ := at_T32 HR1.out x5_1 p114 q114
                  cases e114
                  have HR114_4 := Aside0.mk hi114_4
                  have HC114_4 := Aside0.mk hl114_4
                  clear hi114_4 hl114_4
                  replace p114 := eq_true p114
                  replace q114 := eq_true q114
                  have p115 : 0 ≤ (x5_1 : Int) := of_decide_eq_true (by first | (with_reducible assumption) | assumption)
                  have q115 : x5_1 < (l0.length : Int) := of_decide_eq_true (by first | (with_reducible assumption) | assumption)
                  obtain ⟨ad115, A115_4, c115_4, e115, hx115_0, hx115_1, hx115_2, hx115_3, hx115_4, hl115_4, hi115_4⟩ := at_T32 HR0.out x5_1 p115 q115
                  obtain rfl : ad113 = ad115 := (by injection e115)
                  have HR115_4 := Aside0.mk hi115_4
                  have HC115_4 := Aside0.mk hl115_4
                  clear hi115_4 hl115_4
                  replace p115 := eq_true p115
                  replace q115 := eq_true q115
                  have ea_ := Option.some.inj (hx113_4.symm.trans hx115_4)
                  injection ea_ with ea_ en_ ec_
                  subst ea_
                  subst ec_
                  clear en_
                  have p116 : 0 ≤ (x5_1 : Int) := of_decide_eq_true (by first | (with_reducible assumption) | assumption)
                  have q116 : x5_1 < (l1.length : Int) := of_decide_eq_true (by first | (with_reducible assumption) | assumption)
                  obtain ⟨ad116, A116_4, c116_4, e116, hx116_0, hx116_1, hx116_2, hx116_3, hx116_4, hl116_4, hi116_4⟩ := at_T32 HR1.out x5_1 p116 q116
                  obtain rfl : ad114 = ad116 := (by injection e116)
                  have HR116_4 := Aside0.mk hi116_4
                  have HC116_4 := Aside0.mk hl116_4
                  clear hi116_4 hl116_4
                  replace p116 := eq_true p116
                  replace q116 := eq_true q116
                  have ea_ := Option.some.inj (hx114_4.symm.trans hx116_4)
                  injection ea_ with ea_ en_ ec_
                  subst ea_
                  subst ec_
                  clear en_
                  go_wp2
                  repeat ((first | (go_quiet (fail)) | (refine wp_region_quiet_lit (by kernel_rfl) (by kernel_rfl) ?_; simp only [List.append_eq, List.cons_append, List.nil_append]; repeat (go_big_quiet_step (fail)); refine wpQuiet_nil ?_; intro _ hw'; obtain ⟨nq, hw''⟩ := hw'; subst hw'')); try go_wp2)
                  go_ret
                  exact ⟨by first | rfl | (simp; done) | (simp [*]; done), by repeat (first | exact Drawn0.refl _ | apply Drawn0.step)⟩
              · rw [if_neg c7] at H
                have c7b0 : (((rd_T32 l0 x5_1).f0) == ((rd_T32 l1 x5_1).f0)) = false := beq_eq_false_iff_ne.mpr c7
                have c7b1 : (((rd_T32 l0 x5_1).f0) != ((rd_T32 l1 x5_1).f0)) = true := bne_iff_ne.mpr c7
                obtain rfl := Option.some.inj H
                have p113 : 0 ≤ (x5_1 : Int) := of_decide_eq_true (by first | (with_reducible assumption) | assumption)
                have q113 : x5_1 < (l0.length : Int) := of_decide_eq_true (by first | (with_reducible assumption) | assumption)
                obtain ⟨ad113, A113_4, c113_4, e113, hx113_0, hx113_1, hx113_2, hx113_3, hx113_4, hl113_4, hi113_4⟩ := at_T32 HR0.out x5_1 p113 q113
                cases e113
                have HR113_4 := Aside0.mk hi113_4
                have HC113_4 := Aside0.mk hl113_4
                clear hi113_4 hl113_4
                replace p113 := eq_true p113
                replace q113 := eq_true q113
                have p114 : 0 ≤ (x5_1 : Int) := of_decide_eq_true (by first | (with_reducible assumption) | assumption)
                have q114 : x5_1 < (l1.length : Int) := of_decide_eq_true (by first | (with_reducible assumption) | assumption)
                obtain ⟨ad114, A114_4, c114_4, e114, hx114_0, hx114_1, hx114_2, hx114_3, hx114_4, hl114_4, hi114_4⟩ := at_T32 HR1.out x5_1 p114 q114
                cases e114
                have HR114_4 := Aside0.mk hi114_4
                have HC114_4 := Aside0.mk hl114_4
                clear hi114_4 hl114_4
                replace p114 := eq_true p114
                replace q114 := eq_true q114
                go_wp2
                repeat ((first | (go_quiet (fail)) | (refine wp_region_quiet_lit (by kernel_rfl) (by kernel_rfl) ?_; simp only [List.append_eq, List.cons_append, List.nil_append]; repeat (go_big_quiet_step (fail)); refine wpQuiet_nil ?_; intro _ hw'; obtain ⟨nq, hw''⟩ := hw'; subst hw'')); try go_wp2)
                go_ret
                exact ⟨by first | rfl | (simp; done) | (simp [*]; done), by repeat (first | exact Drawn0.refl _ | apply Drawn0.step)⟩
            · rw [if_neg c6] at H
              exact absurd H (by simp)
          · rw [if_neg c5] at H
            exact absurd H (by simp)
        · rw [if_neg c4] at H
          have c4b0 : decide (x5_1 < (l0.length : Int)) = false := decide_eq_false c4
          clear c4
          obtain rfl := Option.some.inj H
          go_wp2
          repeat ((first | (go_quiet (fail)) | (refine wp_region_quiet_lit (by kernel_rfl) (by kernel_rfl) ?_; simp only [List.append_eq, List.cons_append, List.nil_append]; repeat (go_big_quiet_step (fail)); refine wpQuiet_nil ?_; intro _ hw'; obtain ⟨nq, hw''⟩ := hw'; subst hw'')); try go_wp2)
          go_ret
          exact ⟨by first | rfl | (simp; done) | (simp [*]; done), by repeat (first | exact Drawn0.refl _ | apply Drawn0.step)⟩
  · rw [if_neg c3] at H
    have c3b0 : ((l0.length : Int) == (l1.length : Int)) = false := beq_eq_false_iff_ne.mpr c3
    have c3b1 : ((l0.length : Int) != (l1.length : Int)) = true := bne_iff_ne.mpr c3
    have c3b2 : (l0.length == l1.length) = false := by first | simpa using c3 | (simp at c3 ⊢; omega)
    obtain rfl := Option.some.inj H
    go_enter Try.func5, Try.ntmps5
    go_wp2
    repeat ((first | (go_quiet (fail)) | (refine wp_region_quiet_lit (by kernel_rfl) (by kernel_rfl) ?_; simp only [List.append_eq, List.cons_append, List.nil_append]; repeat (go_big_quiet_step (fail)); refine wpQuiet_nil ?_; intro _ hw'; obtain ⟨nq, hw''⟩ := hw'; subst hw'')); try go_wp2)
    go_ret
    exact ⟨by first | rfl | (simp; done) | (simp [*]; done), by repeat (first | exact Drawn0.refl _ | apply Drawn0.step)⟩

/-! ### broadsheetlaw27_round: function 6 -/
def broadsheetlaw27_round.l0 : Nat → Int → List (S32) → Int → Option ((List (S32)))
  | 0, _, _, _ => none
  | k + 1, x0, x3, x4 => if x4 < 32 then (if x3.length < 2513169434916 then (broadsheetlaw27_round.l0 k x0 (x3 ++ [(⟨6, 0, 0, 0, ([] : List Int)⟩ : S32)]) (wrap64 (x4 + 1))) else (none)) else ((some (([(⟨9, x0, 0, 0, ([] : List Int)⟩ : S32), (⟨6, 0, 0, 0, ([] : List Int)⟩ : S32)] : List (S32)) : List (S32))).bind fun y129 => (if x3.length + y129.length < 2513169434916 then (some (x3 ++ y129)) else (none)))
def broadsheetlaw27_round.f (k : Nat) (a0 : Int) : Option ((List (S32))) := broadsheetlaw27_round.l0 k a0 (([(⟨2, 1, 0, 0, ([] : List Int)⟩ : S32), (⟨3, 0, 0, 0, ([] : List Int)⟩ : S32), (⟨4, 0, 0, 0, ([] : List Int)⟩ : S32), (⟨5, 0, 0, 0, ([] : List Int)⟩ : S32)] : List (S32))) 0
theorem broadsheetlaw27_round.mono_l : ∀ k, (∀ y0 y1 y2, LeO (broadsheetlaw27_round.l0 k y0 y1 y2) (broadsheetlaw27_round.l0 (k + 1) y0 y1 y2))
  | 0 => fun _ _ _ r h => by simp [broadsheetlaw27_round.l0] at h
  | k + 1 => by
    have ih0 := broadsheetlaw27_round.mono_l k
    · intro y0 y1 y2
      unfold broadsheetlaw27_round.l0
      repeat' first
      | (with_reducible exact ih0 _ _ _)
      | (with_reducible exact LeO.refl _)
      | (with_reducible exact LeO.none _)
      | (with_reducible refine LeO.ite ?_ ?_)
      | (with_reducible refine LeO.bind ?_ (fun _ => ?_))
      | exact ih0 _ _ _
      | exact LeO.none _
      | refine LeO.ite ?_ ?_
      | refine LeO.bind ?_ (fun _ => ?_)
theorem broadsheetlaw27_round.mono : ∀ a0 k, LeO (broadsheetlaw27_round.f k a0) (broadsheetlaw27_round.f (k + 1) a0) := by
  intro a0 k
  have ih0 := broadsheetlaw27_round.mono_l k
  unfold broadsheetlaw27_round.f
  repeat' first
      | (with_reducible exact ih0 _ _ _)
      | (with_reducible exact LeO.refl _)
      | (with_reducible exact LeO.none _)
      | (with_reducible refine LeO.ite ?_ ?_)
      | (with_reducible refine LeO.bind ?_ (fun _ => ?_))
      | exact ih0 _ _ _
      | exact LeO.none _
      | refine LeO.ite ?_ ?_
      | refine LeO.bind ?_ (fun _ => ?_)
set_option maxHeartbeats 8000000 in
set_option maxRecDepth 100000 in
theorem broadsheetlaw27_round.calls (k : Nat) (a0 : Int) (r : List (S32)) (w : World) (h : broadsheetlaw27_round.f k a0 = some r) :
    Calls Try.prog 6 #[.int .i64 a0] w fun e w' => ∃ v0_ : Value, e = .returned (v0_) ∧ Kd.N k32 32 w' w.heap.size (fun k_ => (w.heap.size ≤ k_)) v0_ r ∧ Below w.heap.size w w' := by
  have hu32 := Try.underlying32
  have HB := Aside0.mk (Below.refl w.heap.size w)
  have H : (broadsheetlaw27_round.l0 k a0 (([(⟨2, 1, 0, 0, ([] : List Int)⟩ : S32), (⟨3, 0, 0, 0, ([] : List Int)⟩ : S32), (⟨4, 0, 0, 0, ([] : List Int)⟩ : S32), (⟨5, 0, 0, 0, ([] : List Int)⟩ : S32)] : List (S32))) 0) = some r := h
  clear h
  obtain ⟨y123, hy123⟩ : ∃ y_ : List (S32), y_ = (([(⟨2, 1, 0, 0, ([] : List Int)⟩ : S32), (⟨3, 0, 0, 0, ([] : List Int)⟩ : S32), (⟨4, 0, 0, 0, ([] : List Int)⟩ : S32), (⟨5, 0, 0, 0, ([] : List Int)⟩ : S32)] : List (S32))) := ⟨_, rfl⟩
  replace H : (broadsheetlaw27_round.l0 k a0 y123 0) = some r := by first | (rw [hy123]; with_reducible exact H) | (have H2_ := (Option.bind_some _ _).symm.trans H; rw [hy123]; with_reducible exact H2_) | (have H2_ := (Option.bind_some _ _).symm.trans H; with_reducible exact H2_) | with_reducible exact H | (rw [hy123]; exact H) | exact H
  have Ny123 := Aside0.mk hy123
  clear hy123
  have H' := Aside0.mk H
  clear H
  go_enter Try.func6, Try.ntmps6
  go_wp2_with (first | ((with_reducible refine gate_dst (N := 9) rfl ?_); refine Kd.N_lit k32 _ 32 ?hg (N' := 9) ?hd (xs := ([(⟨2, 1, 0, 0, ([] : List Int)⟩ : S32), (⟨3, 0, 0, 0, ([] : List Int)⟩ : S32), (⟨4, 0, 0, 0, ([] : List Int)⟩ : S32), (⟨5, 0, 0, 0, ([] : List Int)⟩ : S32)] : List (S32))) (inner := [.int .i64 2, .int .i64 1, .int .i64 0, .int .i64 0, .slice none 0 0, .int .i64 3, .int .i64 0, .int .i64 0, .int .i64 0, .slice none 0 0, .int .i64 4, .int .i64 0, .int .i64 0, .int .i64 0, .slice none 0 0, .int .i64 5, .int .i64 0, .int .i64 0, .int .i64 0, .slice none 0 0]) (ok := (fun k_ => (w.heap.size ≤ k_))) (okp := (fun k_ => (w.heap.size ≤ k_))) ?hr ?hp (fun _ hk => hk) ((show ∀ k_, w.heap.size ≤ k_ → (fun k_ => (w.heap.size ≤ k_)) k_ from fun k_ hk => (Nat.le_trans (below_size (by repeat (first | (with_reducible first | exact HB.out | apply below_alloc | apply pw_below_drewN | apply below_drew1) | exact HB.out))) hk)) _ (Nat.le_refl _)) (Below.refl _ _) (Nat.le_refl _) (by simp) ?_; (case hd => rfl); (case hg => rfl); (case hr => first | (go_simp; done) | (go_simp; rfl)); (case hp => exact (Reps.c5 (show Kd.FK k32 _ _ (⟨2, 1, 0, 0, ([] : List Int)⟩ : S32) [.int .i64 2, .int .i64 1, .int .i64 0, .int .i64 0, .slice none 0 0] from (k32_mkF _ _ (⟨2, 1, 0, 0, ([] : List Int)⟩ : S32) (Nat.le_refl _) (Kd.F_nil _ _ _))) (Reps.c5 (show Kd.FK k32 _ _ (⟨3, 0, 0, 0, ([] : List Int)⟩ : S32) [.int .i64 3, .int .i64 0, .int .i64 0, .int .i64 0, .slice none 0 0] from (k32_mkF _ _ (⟨3, 0, 0, 0, ([] : List Int)⟩ : S32) (Nat.le_refl _) (Kd.F_nil _ _ _))) (Reps.c5 (show Kd.FK k32 _ _ (⟨4, 0, 0, 0, ([] : List Int)⟩ : S32) [.int .i64 4, .int .i64 0, .int .i64 0, .int .i64 0, .slice none 0 0] from (k32_mkF _ _ (⟨4, 0, 0, 0, ([] : List Int)⟩ : S32) (Nat.le_refl _) (Kd.F_nil _ _ _))) (Reps.c5 (show Kd.FK k32 _ _ (⟨5, 0, 0, 0, ([] : List Int)⟩ : S32) [.int .i64 5, .int .i64 0, .int .i64 0, .int .i64 0, .slice none 0 0] from (k32_mkF _ _ (⟨5, 0, 0, 0, ([] : List Int)⟩ : S32) (Nat.le_refl _) (Kd.F_nil _ _ _))) (Reps.none _ _)))))); intro v124 w2 ho3 hb hg_ hnew_; clear hg_ hnew_; (first | rw [← Ny123.out] at ho3 | (simp only [Int.reduceToNat] at ho3; rw [← Ny123.out] at ho3)); have n0_ := Aside0.mk (Kd.N_lower ho3 (below_size (by repeat (first | (with_reducible first | exact HB.out | apply below_alloc | apply pw_below_drewN | apply below_drew1) | exact HB.out)))); have n1_ := Aside0.mk (below_step (by repeat (first | (with_reducible first | exact HB.out | apply below_alloc | apply pw_below_drewN | apply below_drew1) | exact HB.out)) hb); clear HB; have HO125 := n0_; have HB := n1_; clear n0_ n1_; clear hb ho3))
  go_loopg [3, 4] k (fun kq v3 v4 w' => ∃ (x3_1 : List (S32)) (x4_1 : Int), v4 = .int .i64 x4_1 ∧ Aside0 (broadsheetlaw27_round.l0 kq a0 x3_1 x4_1 = some r) ∧ Aside0 (kq ≤ k) ∧ Aside0 (Kd.N k32 32 w' w.heap.size (fun k_ => (w.heap.size ≤ k_)) v3 x3_1) ∧ Aside0 (Below w.heap.size w w'))
  case atStart => exact ⟨(y123), (0), (by first | rfl | (simp; done) | (simp [*]; done)), H', ⟨Nat.le_refl _⟩, ⟨by (with_reducible repeat (first | apply Kd.N_alloc | apply Kd.N_drewN | apply Kd.N_drew)); exact HO125.out⟩, ⟨by repeat (first | (with_reducible first | exact HB.out | apply below_alloc | apply pw_below_drewN | apply below_drew1) | exact HB.out)⟩⟩
  case round =>
    clear H'
    try clear p2
    obtain ⟨x3_1, x4_1, rfl, HA, HK1, HO_3, HB⟩ := hrel
    cases gk with
    | zero => exact absurd HA.out (by simp [broadsheetlaw27_round.l0])
    | succ k1 =>
      have H := HA.out
      clear HA
      simp only [broadsheetlaw27_round.l0] at H
      by_cases c4 : x4_1 < 32
      · rw [if_pos c4] at H
        have c4b0 : decide (x4_1 < 32) = true := decide_eq_true c4
        clear c4
        by_cases c5 : x3_1.length < 2513169434916
        · rw [if_pos c5] at H
          have LMc5 := Aside0.mk c5
          clear c5
          obtain ⟨y126, hy126⟩ : ∃ y_ : List (S32), y_ = (x3_1 ++ [(⟨6, 0, 0, 0, ([] : List Int)⟩ : S32)]) := ⟨_, rfl⟩
          replace H : (broadsheetlaw27_round.l0 k1 a0 y126 (wrap64 (x4_1 + 1))) = some r := by first | (rw [hy126]; with_reducible exact H) | (have H2_ := (Option.bind_some _ _).symm.trans H; rw [hy126]; with_reducible exact H2_) | (have H2_ := (Option.bind_some _ _).symm.trans H; with_reducible exact H2_) | with_reducible exact H | (rw [hy126]; exact H) | exact H
          have Ny126 := Aside0.mk hy126
          clear hy126
          have H' := Aside0.mk H
          clear H
          go_wp2_with (first | ((with_reducible refine gate_builtin (b := .append) (xs := #[.tmp 14, .tmp 16]) rfl ?_); at_builtin; refine Kd.N_append k32 (w0 := w) w.heap.size rfl (.tmp 14) (.tmp 16) 25 32 (.agg #[(.int .i64 0), (.int .i64 0), (.int .i64 0), (.int .i64 0), (.slice none 0 0)]) 56 rfl Try.underlying25 info32 rfl (by decide) (by omega) u3 x3_1 (⟨6, 0, 0, 0, ([] : List Int)⟩ : S32) [.int .i64 6, .int .i64 0, .int .i64 0, .int .i64 0, .slice none 0 0] (fun k_ => (w.heap.size ≤ k_)) (fun k_ => ((fun k_ => (w.heap.size ≤ k_))) k_ ∧ some k_ ≠ (u3 : Value).ownBlock) rfl rfl ?aP (fun _ hk => hk) ?aF ?aO ?aB ?aS ?aL ?_; (case aP => exact (k32_mkF _ _ (⟨6, 0, 0, 0, ([] : List Int)⟩ : S32) (Nat.le_refl _) (Kd.F_nil _ _ _))); (case aB => exact (by repeat (first | (with_reducible first | exact HB.out | apply below_alloc | apply pw_below_drewN | apply below_drew1) | exact HB.out))); (case aF => exact (fun k_ hk => (Nat.le_trans (below_size (by repeat (first | (with_reducible first | exact HB.out | apply below_alloc | apply pw_below_drewN | apply below_drew1) | exact HB.out))) hk))); (case aO => exact (by (with_reducible repeat (first | apply Kd.N_alloc | apply Kd.N_drewN | apply Kd.N_drew)); exact HO_3.out)); (case aS => exact (below_size (by repeat (first | (with_reducible first | exact HB.out | apply below_alloc | apply pw_below_drewN | apply below_drew1) | exact HB.out)))); (case aL => have := LMc5.out; omega); intro v127 w6 ho hb hg hat; rw [← Ny126.out] at ho; have n0_ := Aside0.mk (hb); have n1_ := Aside0.mk (ho); clear HB; clear HO_3; have HB := n0_; have HO128 := n1_; clear n0_ n1_; clear ho hb hg hat))
          go_roundg k1
          case measure => have := HK1.out; omega
          case rel => exact ⟨(y126), (wrap64 (x4_1 + 1)), (by first | rfl | (simp; done) | (simp [*]; done)), H', ⟨by have := HK1.out; omega⟩, ⟨by (with_reducible repeat (first | apply Kd.N_alloc | apply Kd.N_drewN | apply Kd.N_drew)); exact HO128.out⟩, ⟨by repeat (first | (with_reducible first | exact HB.out | apply below_alloc | apply pw_below_drewN | apply below_drew1) | exact HB.out)⟩⟩
        · rw [if_neg c5] at H
          exact absurd H (by simp)
      · rw [if_neg c4] at H
        have c4b0 : decide (x4_1 < 32) = false := decide_eq_false c4
        clear c4
        obtain ⟨y129, hy129⟩ : ∃ y_ : List (S32), y_ = (([(⟨9, a0, 0, 0, ([] : List Int)⟩ : S32), (⟨6, 0, 0, 0, ([] : List Int)⟩ : S32)] : List (S32))) := ⟨_, rfl⟩
        replace H : (if x3_1.length + y129.length < 2513169434916 then (some (x3_1 ++ y129)) else (none)) = some r := by first | (rw [hy129]; with_reducible exact H) | (have H2_ := (Option.bind_some _ _).symm.trans H; rw [hy129]; with_reducible exact H2_) | (have H2_ := (Option.bind_some _ _).symm.trans H; with_reducible exact H2_) | with_reducible exact H | (rw [hy129]; exact H) | exact H
        have Ny129 := Aside0.mk hy129
        clear hy129
        by_cases c7 : x3_1.length + y129.length < 2513169434916
        · rw [if_pos c7] at H
          have LMc7 := Aside0.mk c7
          clear c7
          obtain ⟨y132, hy132⟩ : ∃ y_ : List (S32), y_ = (x3_1 ++ y129) := ⟨_, rfl⟩
          replace H : (some y132) = some r := by first | (rw [hy132]; with_reducible exact H) | (have H2_ := (Option.bind_some _ _).symm.trans H; rw [hy132]; with_reducible exact H2_) | (have H2_ := (Option.bind_some _ _).symm.trans H; with_reducible exact H2_) | with_reducible exact H | (rw [hy132]; exact H) | exact H
          have Ny132 := Aside0.mk hy132
          clear hy132
          obtain rfl := Option.some.inj H
          go_wp2_with (first | ((with_reducible refine gate_dst (N := 22) rfl ?_); refine Kd.N_lit k32 _ 32 ?hg (N' := 22) ?hd (xs := ([(⟨9, a0, 0, 0, ([] : List Int)⟩ : S32), (⟨6, 0, 0, 0, ([] : List Int)⟩ : S32)] : List (S32))) (inner := [.int .i64 9, .int .i64 a0, .int .i64 0, .int .i64 0, .slice none 0 0, .int .i64 6, .int .i64 0, .int .i64 0, .int .i64 0, .slice none 0 0]) (ok := (fun k_ => (w.heap.size ≤ k_) ∧ some k_ ≠ (u3 : Value).ownBlock)) (okp := (fun k_ => (w.heap.size ≤ k_) ∧ some k_ ≠ (u3 : Value).ownBlock)) ?hr ?hp (fun _ hk => hk) ((show ∀ k_, wr.heap.size ≤ k_ → (fun k_ => (w.heap.size ≤ k_) ∧ some k_ ≠ (u3 : Value).ownBlock) k_ from fun k_ hk => ⟨(Nat.le_trans (below_size (by repeat (first | (with_reducible first | exact HB.out | apply below_alloc | apply pw_below_drewN | apply below_drew1) | exact HB.out))) hk), Kd.fresh' (Kd.N_lt (by (with_reducible repeat (first | apply Kd.N_alloc | apply Kd.N_drewN | apply Kd.N_drew)); exact HO_3.out)) k_ hk⟩) _ (Nat.le_refl _)) (Below.refl _ _) (Nat.le_refl _) (by simp) ?_; (case hd => rfl); (case hg => rfl); (case hr => first | (go_simp; done) | (go_simp; rfl)); (case hp => exact (Reps.c5 (show Kd.FK k32 _ _ (⟨9, a0, 0, 0, ([] : List Int)⟩ : S32) [.int .i64 9, .int .i64 a0, .int .i64 0, .int .i64 0, .slice none 0 0] from (k32_mkF _ _ (⟨9, a0, 0, 0, ([] : List Int)⟩ : S32) (Nat.le_refl _) (Kd.F_nil _ _ _))) (Reps.c5 (show Kd.FK k32 _ _ (⟨6, 0, 0, 0, ([] : List Int)⟩ : S32) [.int .i64 6, .int .i64 0, .int .i64 0, .int .i64 0, .slice none 0 0] from (k32_mkF _ _ (⟨6, 0, 0, 0, ([] : List Int)⟩ : S32) (Nat.le_refl _) (Kd.F_nil _ _ _))) (Reps.none _ _)))); intro v130 w8 ho9 hb hg_ hnew_; clear hg_ hnew_; (first | rw [← Ny129.out] at ho9 | (simp only [Int.reduceToNat] at ho9; rw [← Ny129.out] at ho9)); have n0_ := Aside0.mk (Kd.N_elder' (by (with_reducible repeat (first | apply Kd.N_alloc | apply Kd.N_drewN | apply Kd.N_drew)); exact HO_3.out) (Kd.N_base ho9) hb); have n1_ := Aside0.mk (Kd.N_lower ho9 (below_size (by repeat (first | (with_reducible first | exact HB.out | apply below_alloc | apply pw_below_drewN | apply below_drew1) | exact HB.out)))); have n2_ := Aside0.mk (below_step (by repeat (first | (with_reducible first | exact HB.out | apply below_alloc | apply pw_below_drewN | apply below_drew1) | exact HB.out)) hb); clear HO_3; clear HB; have HO_3 := n0_; have HO131 := n1_; have HB := n2_; clear n0_ n1_ n2_; clear hb ho9; obtain ⟨Ao11, co11, eo11⟩ := Kd.N_slice HO131.out; subst eo11) | ((with_reducible refine gate_builtin (b := .append) (xs := #[.tmp 18, .tmp 22]) rfl ?_); at_builtin; refine Kd.N_append_rows k32 (w0 := w) w.heap.size rfl (.tmp 18) (.tmp 22) 25 32 (.agg #[(.int .i64 0), (.int .i64 0), (.int .i64 0), (.int .i64 0), (.slice none 0 0)]) 56 rfl Try.underlying25 info32 rfl (by decide) (by omega) u3 x3_1 y129 _ _ _ (fun k_ => (w.heap.size ≤ k_)) (fun k_ => ((fun k_ => (w.heap.size ≤ k_))) k_ ∧ some k_ ≠ (u3 : Value).ownBlock) rfl rfl ?aO ?aR (fun _ hk => hk) ?aF ?aB ?aS ?aL ?_; (case aR => exact (by skip; exact Kd.N_F (Kd.N_mono (ok' := (fun k_ => ((fun k_ => (w.heap.size ≤ k_))) k_ ∧ some k_ ≠ (u3 : Value).ownBlock)) (HO131.out) (fun k_ hk => ⟨hk.1, hk.2⟩)))); (case aB => exact (by repeat (first | (with_reducible first | exact HB.out | apply below_alloc | apply pw_below_drewN | apply below_drew1) | exact HB.out))); (case aF => exact (fun k_ hk => (Nat.le_trans (below_size (by repeat (first | (with_reducible first | exact HB.out | apply below_alloc | apply pw_below_drewN | apply below_drew1) | exact HB.out))) hk))); (case aO => exact (by (with_reducible repeat (first | apply Kd.N_alloc | apply Kd.N_drewN | apply Kd.N_drew)); exact Kd.N_mono HO_3.out (fun _ hk => hk.1))); (case aS => exact (below_size (by repeat (first | (with_reducible first | exact HB.out | apply below_alloc | apply pw_below_drewN | apply below_drew1) | exact HB.out)))); (case aL => have := LMc7.out; omega); intro v133 w10 ho hb hg hat; rw [← Ny132.out] at ho; have n0_ := Aside0.mk (Kd.N_afterv (ok := (fun k_ => (w.heap.size ≤ k_))) (by (with_reducible repeat (first | apply Kd.N_alloc | apply Kd.N_drewN | apply Kd.N_drew)); exact HO131.out) hg hat); have n1_ := Aside0.mk (hb); have n2_ := Aside0.mk (ho); clear HO131; clear HB; clear HO_3; have HO131 := n0_; have HB := n1_; have HO134 := n2_; clear n0_ n1_ n2_; clear ho hb hg hat))
          go_ret
          exact ⟨_, by first | rfl | (simp [errW_none, errW_some] <;> rfl) | (simp [*, errW_none, errW_some] <;> rfl), by (with_reducible repeat (first | apply Kd.N_alloc | apply Kd.N_drewN | apply Kd.N_drew)); exact HO134.out, by repeat (first | (with_reducible first | exact HB.out | apply below_alloc | apply pw_below_drewN | apply below_drew1) | exact HB.out)⟩
        · rw [if_neg c7] at H
          exact absurd H (by simp)

end Go.Proofs.Ytnjdimemiojoaaa.Ft
