/- What the law FairTells computes, as a Lean function, answers true: for every argument. Conditions: none. -/
import Derived.Test.YtnjdimemiojoaaaFtx4
namespace Go.Proofs.Ytnjdimemiojoaaa.Ft
open Go.RowKit Go.Proofs.YtnjdimemiojoaaaW.PrintWords Go.Proofs.YtnjdimemiojoaaaW.PrintLast Go.Proofs.YtnjdimemiojoaaaW.PrintMore
set_option linter.unusedVariables false
set_option linter.unusedSimpArgs false

abbrev it (k n : Int) : S32 := ⟨k, n, 0, 0, []⟩
def rnd (leaf : Int) : List S32 := [it 2 1, it 3 0, it 4 0, it 5 0, it 6 0, it 6 0, it 6 0, it 6 0, it 6 0, it 6 0, it 6 0, it 6 0, it 6 0, it 6 0, it 6 0, it 6 0, it 6 0, it 6 0, it 6 0, it 6 0, it 6 0, it 6 0, it 6 0, it 6 0, it 6 0, it 6 0, it 6 0, it 6 0, it 6 0, it 6 0, it 6 0, it 6 0, it 6 0, it 6 0, it 6 0, it 6 0, it 9 leaf, it 6 0]
theorem rnd_length (leaf : Int) : (rnd leaf).length = 38 := rfl

theorem round_ev (a leaf : Int) (k : Nat) (hk : 40 ≤ k) : fair_Round.f k a leaf = some (rnd leaf) :=
  at_rounds (fair_Round.mono a leaf) hk (by kernel_rfl)
theorem round0_ev (leaf : Int) (k : Nat) (hk : 40 ≤ k) : broadsheetlaw27_round.f k leaf = some (rnd leaf) :=
  at_rounds (broadsheetlaw27_round.mono leaf) hk (by kernel_rfl)
theorem known_ev (k : Nat) (hk : 100 ≤ k) : broadsheetlaw27_known.f k = some true :=
  at_rounds broadsheetlaw27_known.mono hk (by kernel_rfl)

theorem same_loop (l : List S32) (hl : l.length < 9223372036854775807) (d : Nat) : ∀ (k : Nat) (i : Int), 0 ≤ i → i ≤ l.length → (l.length : Int) - i = d → d < k → broadsheetlaw27_same.l0 k l l i = some true := by
  induction d with
  | zero =>
    intro k i h0 h1 hd hk
    obtain ⟨k, rfl⟩ : ∃ m, k = m + 1 := ⟨k - 1, by omega⟩
    simp only [broadsheetlaw27_same.l0]
    rw [if_neg (by omega)]
  | succ d ih =>
    intro k i h0 h1 hd hk
    obtain ⟨k, rfl⟩ : ∃ m, k = m + 1 := ⟨k - 1, by omega⟩
    simp only [broadsheetlaw27_same.l0]
    rw [if_pos (by omega), if_pos h0, if_pos (by omega), if_pos trivial, if_pos trivial, if_pos trivial, if_pos trivial, if_pos trivial]
    rw [show wrap64 (i + 1) = i + 1 from by unfold wrap64; omega]
    exact ih k (i + 1) (by omega) (by omega) (by omega) (by omega)
theorem same_ev (leaf : Int) (k : Nat) (hk : 40 ≤ k) : broadsheetlaw27_same.f k (rnd leaf) (rnd leaf) = some true := by
  unfold broadsheetlaw27_same.f
  rw [if_pos rfl]
  exact same_loop (rnd leaf) (by rw [rnd_length]; omega) 38 k 0 (by omega) (by rw [rnd_length]; omega) (by rw [rnd_length]; omega) (by omega)

/-! ### Fair -/
def sameB (x y : S32) : Bool := x.f0 == y.f0 && (x.f1 == y.f1 || x.f0 == 9 || x.f0 == 3 || x.f0 == 4 || x.f0 == 5)
theorem same_is (x y : S32) : fair_same.f x.f0 x.f1 x.f2 x.f3 x.f4 y.f0 y.f1 y.f2 y.f3 y.f4 = some (sameB x y) := by
  unfold fair_same.f sameB
  by_cases h0 : x.f0 = y.f0
  · rw [if_pos h0, beq_iff_eq.2 h0]
    by_cases h1 : x.f1 = y.f1
    · rw [if_pos h1, beq_iff_eq.2 h1]; rfl
    · rw [if_neg h1, beq_eq_false_iff_ne.2 h1]
      by_cases h2 : x.f0 = 9
      · rw [if_pos h2, beq_iff_eq.2 h2]; rfl
      · rw [if_neg h2, beq_eq_false_iff_ne.2 h2]
        by_cases h3 : x.f0 = 3
        · rw [if_pos h3, beq_iff_eq.2 h3]; rfl
        · rw [if_neg h3, beq_eq_false_iff_ne.2 h3]
          by_cases h4 : x.f0 = 4
          · rw [if_pos h4, beq_iff_eq.2 h4]; rfl
          · rw [if_neg h4, beq_eq_false_iff_ne.2 h4]; simp
  · rw [if_neg h0, beq_eq_false_iff_ne.2 h0]; rfl
def okAt (l : List S32) (n : Nat) : Bool := sameB (rd_T32 l n) (rd_T32 (rnd 0) ((n % 38 : Nat) : Int))
def okFrom (l : List S32) (i : Nat) : Nat → Bool
  | 0 => true
  | d + 1 => okAt l i && okFrom l (i + 1) d
theorem fair_loop (l : List S32) (hl : l.length < 9223372036854775807) (d : Nat) : ∀ (k : Nat) (i : Nat), i + d = l.length → d < k → fair_Fair.l0 k (rnd 0) l (l.length : Int) (i : Int) = some (okFrom l i d) := by
  induction d with
  | zero =>
    intro k i hd hk
    obtain ⟨k, rfl⟩ : ∃ m, k = m + 1 := ⟨k - 1, by omega⟩
    simp only [fair_Fair.l0]
    rw [if_neg (by omega)]
    rfl
  | succ d ih =>
    intro k i hd hk
    obtain ⟨k, rfl⟩ : ∃ m, k = m + 1 := ⟨k - 1, by omega⟩
    have e : Int.tmod (i : Int) ((rnd 0).length : Int) = ((i % 38 : Nat) : Int) := by rw [rnd_length]; rfl
    simp only [fair_Fair.l0, e]
    rw [if_pos (by omega), if_pos (by omega), if_pos (by omega), if_neg (by rw [rnd_length]; omega), if_pos (by omega), if_pos (by rw [rnd_length]; omega), same_is]
    simp only [Option.bind_some]
    rw [show wrap64 ((i : Int) + 1) = ((i + 1 : Nat) : Int) from by unfold wrap64; omega, ih k (i + 1) (by omega) (by omega)]
    show _ = some (okAt l i && okFrom l (i + 1) d)
    cases h : okAt l i
    · rw [if_neg (by unfold okAt at h; rw [h]; exact Bool.false_ne_true)]; rfl
    · rw [if_pos (by unfold okAt at h; exact h)]; simp
theorem okFrom_iff (l : List S32) (d : Nat) : ∀ i, okFrom l i d = true ↔ ∀ n, i ≤ n → n < i + d → okAt l n = true := by
  induction d with
  | zero => intro i; simp [okFrom]; intro n h1 h2; omega
  | succ d ih =>
    intro i
    rw [okFrom, Bool.and_eq_true, ih (i + 1)]
    constructor
    · rintro ⟨h1, h2⟩ n h3 h4
      by_cases e : n = i
      · rw [e]; exact h1
      · exact h2 n (by omega) (by omega)
    · intro h
      exact ⟨h i (by omega) (by omega), fun n h1 h2 => h n (by omega) (by omega)⟩
def fairB (l : List S32) : Bool := !l.isEmpty && l.length % 38 == 0 && okFrom l 0 l.length
theorem fair_ev (a : Int) (l : List S32) (hl : l.length ≤ 200) (k : Nat) (hk : 300 ≤ k) : fair_Fair.f k a l = some (fairB l) := by
  obtain ⟨k, rfl⟩ : ∃ m, k = m + 1 := ⟨k - 1, by omega⟩
  unfold fair_Fair.f
  rw [round_ev a 0 _ (by omega)]
  simp only [Option.bind_some]
  unfold fairB
  cases l with
  | nil => rfl
  | cons x t =>
    rw [if_neg (by simp; omega), if_neg (by rw [rnd_length]; omega)]
    simp only [fair_Fair.j0]
    have e : ((((x :: t).length : Int) % ((rnd 0).length : Int)) != 0) = !((x :: t).length % 38 == 0) := by
      rw [rnd_length]
      cases h : ((x :: t).length % 38 == 0)
      · have : ¬ (x :: t).length % 38 = 0 := by simpa using h
        simp only [Bool.not_false, bne_iff_ne]; omega
      · have : (x :: t).length % 38 = 0 := by simpa using h
        simp only [Bool.not_true, bne_eq_false_iff_eq]; omega
    rw [e]
    cases h : ((x :: t).length % 38 == 0)
    · rw [if_pos (by rfl)]; rfl
    · rw [if_neg (by simp)]
      have := fair_loop (x :: t) (by omega) (x :: t).length k 0 (by omega) (by omega)
      rw [show ((0 : Nat) : Int) = 0 from rfl] at this
      rw [this]
      rfl

/-! ### The rounds, one behind the other -/
theorem rd_nat (l : List S32) (n : Nat) : rd_T32 l (n : Int) = l.getD n z32 := by unfold rd_T32; rw [Int.toNat_natCast]
def kindAt (n : Nat) : S32 := (rnd 0).getD (n % 38) z32
def Good (l : List S32) : Prop := l.length % 38 = 0 ∧ ∀ n, n < l.length → (l.getD n z32).f0 = (kindAt n).f0 ∧ ((kindAt n).f0 ≠ 9 → (l.getD n z32).f1 = (kindAt n).f1)
theorem rnd_set (leaf : Int) : rnd leaf = (rnd 0).set 36 (it 9 leaf) := rfl
theorem rnd_at (leaf : Int) (j : Nat) (hj : j < 38) : ((rnd leaf).getD j z32).f0 = ((rnd 0).getD j z32).f0 ∧ (((rnd 0).getD j z32).f0 ≠ 9 → ((rnd leaf).getD j z32).f1 = ((rnd 0).getD j z32).f1) := by
  rw [rnd_set]
  simp only [List.getD_eq_getElem?_getD, List.getElem?_set]
  by_cases e : 36 = j
  · subst e
    rw [if_pos rfl, if_pos (by rw [rnd_length]; omega)]
    exact ⟨rfl, fun h => absurd rfl h⟩
  · rw [if_neg e]
    exact ⟨rfl, fun _ => rfl⟩
theorem good_nil : Good [] := ⟨rfl, fun n h => absurd h (Nat.not_lt_zero n)⟩
theorem good_snoc {l : List S32} (h : Good l) (leaf : Int) : Good (l ++ rnd leaf) := by
  obtain ⟨h1, h2⟩ := h
  refine ⟨by rw [List.length_append, rnd_length]; omega, fun n hn => ?_⟩
  rw [List.length_append, rnd_length] at hn
  by_cases hlt : n < l.length
  · have e : (l ++ rnd leaf).getD n z32 = l.getD n z32 := by simp only [List.getD_eq_getElem?_getD, List.getElem?_append_left hlt]
    rw [e]
    exact h2 n hlt
  · have e : (l ++ rnd leaf).getD n z32 = (rnd leaf).getD (n % 38) z32 := by
      simp only [List.getD_eq_getElem?_getD, List.getElem?_append_right (Nat.le_of_not_lt hlt)]
      rw [show n - l.length = n % 38 from by omega]
    rw [e]
    exact rnd_at leaf (n % 38) (by omega)
theorem kinds (n : Nat) : (kindAt n).f0 = 2 ∨ (kindAt n).f0 = 3 ∨ (kindAt n).f0 = 4 ∨ (kindAt n).f0 = 5 ∨ (kindAt n).f0 = 6 ∨ (kindAt n).f0 = 9 := by
  have h : ∀ x ∈ rnd 0, x.f0 = 2 ∨ x.f0 = 3 ∨ x.f0 = 4 ∨ x.f0 = 5 ∨ x.f0 = 6 ∨ x.f0 = 9 := by
    intro x hx
    simp only [rnd, List.mem_cons, List.not_mem_nil, or_false] at hx
    rcases hx with h | h | h | h | h | h | h | h | h | h | h | h | h | h | h | h | h | h | h | h | h | h | h | h | h | h | h | h | h | h | h | h | h | h | h | h | h | h <;> subst h <;> simp
  refine h _ ?_
  unfold kindAt
  rw [List.getD_eq_getElem?_getD, List.getElem?_eq_getElem (by rw [rnd_length]; omega)]
  exact List.getElem_mem _
theorem okAt_good {l : List S32} (n : Nat) (h0 : (l.getD n z32).f0 = (kindAt n).f0) (h1 : (kindAt n).f0 ≠ 9 → (l.getD n z32).f1 = (kindAt n).f1) : okAt l n = true := by
  unfold okAt sameB
  rw [rd_nat, rd_nat]
  change (_ == (kindAt n).f0 && (_ == (kindAt n).f1 || _ || _ || _ || _)) = true
  rw [h0]
  by_cases e : (kindAt n).f0 = 9
  · simp [e]
  · rw [h1 e]; simp
theorem fairB_good {l : List S32} (h : Good l) : fairB l = decide (0 < l.length) := by
  unfold fairB
  rw [(okFrom_iff l l.length 0).2 (fun n _ hn => okAt_good n (h.2 n (by omega)).1 (h.2 n (by omega)).2), h.1]
  cases l <;> simp
/-- One item turned. -/
theorem fairB_set {l : List S32} (h : Good l) (k : Nat) (hk : k < l.length) (x : S32) : fairB (l.set k x) = sameB x (kindAt k) := by
  have hl : (l.set k x).length = l.length := List.length_set
  have hk' : okAt (l.set k x) k = sameB x (kindAt k) := by
    unfold okAt
    rw [rd_nat, rd_nat, List.getD_eq_getElem?_getD, List.getElem?_set, if_pos rfl, if_pos hk]
    rfl
  have ho : ∀ n, n < l.length → n ≠ k → okAt (l.set k x) n = true := by
    intro n hn hne
    have e : (l.set k x).getD n z32 = l.getD n z32 := by
      simp only [List.getD_eq_getElem?_getD, List.getElem?_set]
      rw [if_neg (fun e => hne e.symm)]
    exact okAt_good n (by rw [e]; exact (h.2 n hn).1) (by rw [e]; exact (h.2 n hn).2)
  have e : okFrom (l.set k x) 0 (l.set k x).length = sameB x (kindAt k) := by
    rw [← hk', Bool.eq_iff_iff, okFrom_iff]
    constructor
    · intro h2; exact h2 k (by omega) (by omega)
    · intro h2 n _ hn
      by_cases e : n = k
      · rw [e]; exact h2
      · exact ho n (by omega) e
  unfold fairB
  rw [e, hl, h.1]
  have : (l.set k x).isEmpty = false := by
    cases hc : l.set k x with
    | nil => rw [hc] at hl; simp at hl; omega
    | cons a t => rfl
  rw [this]
  simp

/-! ### The law's own function -/
section
variable (c0 c1 c2 c3 c4 c5 c6 : Int) (c7 : ByteArray)
theorem rounds_is : fair_Rounds.f c0 c1 c2 c3 c4 c5 c6 c7 = some ((if 0 ≤ c4 ∧ c4 ≤ 1000 then c4 else 0) + (if 1 ≤ c5 ∧ c5 ≤ 100 then 16 * c5 else 0) + 42) := by
  have h4 : fair_within.f c4 0 1000 = some (if 0 ≤ c4 ∧ c4 ≤ 1000 then c4 else 0) := by
    unfold fair_within.f
    by_cases h : c4 < 0
    · rw [if_pos h, if_neg (by omega)]
    · rw [if_neg h]
      by_cases h' : c4 > 1000
      · rw [if_pos h', if_neg (by omega)]
      · rw [if_neg h', if_pos (by omega)]
  have h5 : fair_within.f c5 1 100 = some (if 1 ≤ c5 ∧ c5 ≤ 100 then c5 else 0) := by
    unfold fair_within.f
    by_cases h : c5 < 1
    · rw [if_pos h, if_neg (by omega)]
    · rw [if_neg h]
      by_cases h' : c5 > 100
      · rw [if_pos h', if_neg (by omega)]
      · rw [if_neg h', if_pos (by omega)]
  unfold fair_Rounds.f
  rw [h4]; simp only [Option.bind_some]
  rw [h5]; simp only [Option.bind_some]
  congr 1
  by_cases g4 : 0 ≤ c4 ∧ c4 ≤ 1000 <;> by_cases g5 : 1 ≤ c5 ∧ c5 ≤ 100 <;> simp only [g4, g5, if_true, if_false, and_self] <;> unfold wrap64 <;> omega

theorem end_ev (a0 : Int) (l : List S32) (fine : Bool) (hl : l.length ≤ 200) (hf : fairB l = fine) (k : Nat) (hk : 400 ≤ k) :
    broadsheetlaw27_FairTells.j2 k a0 l fine c0 c1 c2 c3 c4 c5 c6 c7 = some true := by
  have h4 : ∀ k, 390 ≤ k → ∀ x : Int, x = (if 0 ≤ c4 ∧ c4 ≤ 1000 then c4 else 0) → broadsheetlaw27_FairTells.j4 k a0 l fine x c0 c1 c2 c3 c4 c5 c6 c7 = some true := by
    intro k hk x hx
    obtain ⟨k, rfl⟩ : ∃ m, k = m + 1 := ⟨k - 1, by omega⟩
    obtain ⟨k, rfl⟩ : ∃ m, k = m + 1 := ⟨k - 1, by omega⟩
    have hfair := fair_ev a0 l hl k (by omega)
    have hkn := known_ev k (by omega)
    have hr := rounds_is c0 c1 c2 c3 c4 c5 c6 c7
    simp only [broadsheetlaw27_FairTells.j4, broadsheetlaw27_FairTells.j5, hfair, hkn, hr, hf, Option.bind_some, beq_self_eq_true, if_true]
    have hx0 : 0 ≤ x ∧ x ≤ 1000 := by rw [hx]; split <;> omega
    rw [← hx]
    by_cases g1 : c5 ≥ 1
    · rw [if_pos g1]
      by_cases g2 : c5 ≤ 100
      · simp only [g2, decide_true, if_true]
        rw [if_pos (by simp only [ge_iff_le.1 g1, and_self, if_true]; unfold wrap64; omega)]
      · simp only [g2, decide_false, Bool.false_eq_true, if_false]
        rw [if_pos (by simp only [g2, and_false, if_false]; unfold wrap64; omega)]
    · rw [if_neg g1]
      simp only [Bool.false_eq_true, if_false]
      rw [if_pos (by rw [if_neg (by omega)]; unfold wrap64; omega)]
  obtain ⟨k, rfl⟩ : ∃ m, k = m + 1 := ⟨k - 1, by omega⟩
  obtain ⟨k, rfl⟩ : ∃ m, k = m + 1 := ⟨k - 1, by omega⟩
  simp only [broadsheetlaw27_FairTells.j2, broadsheetlaw27_FairTells.j3]
  by_cases g1 : c4 ≥ 0
  · rw [if_pos g1]
    by_cases g2 : c4 ≤ 1000
    · rw [if_pos (decide_eq_true g2)]
      exact h4 k (by omega) _ (by rw [if_pos ⟨g1, g2⟩]; unfold wrap64; omega)
    · rw [if_neg (by simp [g2])]
      exact h4 k (by omega) _ (by rw [if_neg (by omega)])
  · rw [if_neg g1, if_neg (by simp)]
    exact h4 k (by omega) _ (by rw [if_neg (by omega)])

theorem within_ev (k : Nat) (hk : 5 ≤ k) (n hi : Int) (h : 0 ≤ hi) (h2 : hi < 9223372036854775806) : ∃ r, broadsheetbook_Within.f k n 0 hi = some r ∧ 0 ≤ r ∧ r ≤ hi := by
  obtain ⟨k, rfl⟩ : ∃ m, k = m + 1 := ⟨k - 1, by omega⟩
  have e : wrap64 (wrap64 (hi - 0) + 1) = hi + 1 := by unfold wrap64; omega
  have t0 := Int.lt_tmod_of_pos n (show 0 < hi + 1 by omega)
  have t1 := Int.tmod_lt_of_pos n (show 0 < hi + 1 by omega)
  unfold broadsheetbook_Within.f
  simp only [broadsheetbook_Within.j0, e]
  generalize Int.tmod n (hi + 1) = t at *
  have tail : ∃ r, (if hi + 1 = 0 then none else if t < 0 then some (wrap64 (0 + wrap64 (wrap64 (wrap64 (t + hi) - 0) + 1))) else some (wrap64 (0 + t))) = some r ∧ 0 ≤ r ∧ r ≤ hi := by
    rw [if_neg (by omega)]
    by_cases ht : t < 0
    · rw [if_pos ht]
      exact ⟨_, rfl, by unfold wrap64; omega, by unfold wrap64; omega⟩
    · rw [if_neg ht]
      exact ⟨_, rfl, by unfold wrap64; omega, by unfold wrap64; omega⟩
  by_cases g : n ≥ 0
  · rw [if_pos g]
    by_cases g2 : n ≤ hi
    · rw [if_pos (decide_eq_true g2)]
      exact ⟨n, rfl, g, g2⟩
    · rw [if_neg (by simp [g2])]
      exact tail
  · rw [if_neg g, if_neg (by simp)]
    exact tail

theorem good_len {l : List S32} (h : Good l) (h0 : 0 < l.length) : 38 ≤ l.length := by have := h.1; omega
theorem set_same (l : List S32) (q : Nat) (hq : q < l.length) (x : S32) (h : x = l.getD q z32) : l.set q x = l := by
  rw [h, List.getD_eq_getElem?_getD, List.getElem?_eq_getElem hq]
  exact List.set_getElem_self hq

/-- Behind the loop. -/
theorem tail_ev (a0 : Int) (l1 : List Int) (at_ kind n how : Int) (l : List S32) (i : Int) (hg : Good l) (hl : l.length ≤ 190) (k : Nat) (hk : 500 ≤ k) :
    broadsheetlaw27_FairTells.j1 k a0 l1 at_ kind n how l i false c0 c1 c2 c3 c4 c5 c6 c7 = some true := by
  obtain ⟨k, rfl⟩ : ∃ m, k = m + 1 := ⟨k - 1, by omega⟩
  simp only [broadsheetlaw27_FairTells.j1, Bool.false_eq_true, if_false]
  by_cases h0 : (l.length : Int) > 0
  · rw [if_pos h0]
    have ew : wrap64 ((l.length : Int) - 1) = (l.length : Int) - 1 := by unfold wrap64; omega
    obtain ⟨p, hp, p0, p1⟩ := within_ev k (by omega) at_ (wrap64 ((l.length : Int) - 1)) (by omega) (by omega)
    obtain ⟨q, rfl⟩ := Int.eq_ofNat_of_zero_le p0
    have hq : q < l.length := by omega
    have hqi : ((q : Nat) : Int) < (l.length : Int) := by omega
    rw [hp]
    simp only [Option.bind_some, List.nil_append, List.length_nil, Nat.zero_add]
    rw [if_pos (by omega)]
    have e := hg.2 q hq
    have hk9 := kinds q
    have hx : ∀ x fine, sameB x (kindAt q) = fine → broadsheetlaw27_FairTells.j2 k a0 (l.set ((q : Int)).toNat x) fine c0 c1 c2 c3 c4 c5 c6 c7 = some true := fun x fine hf =>
      end_ev c0 c1 c2 c3 c4 c5 c6 c7 a0 _ fine (by rw [List.length_set]; omega) (by rw [Int.toNat_natCast, fairB_set hg q hq]; exact hf) k (by omega)
    rw [rd_nat]
    generalize l.getD q z32 = y at *
    by_cases w1 : how = 1
    · rw [if_pos w1, if_pos p0, if_pos hqi]
      refine hx _ _ ?_
      unfold sameB
      simp only [e.1]
      by_cases g : kind = (kindAt q).f0
      · subst g
        by_cases g9 : (kindAt q).f0 = 9
        · simp [g9]
        · simp [e.2 g9]
      · have g' : ¬ (kindAt q).f0 = kind := fun h => g h.symm
        rw [beq_eq_false_iff_ne.2 g, beq_eq_false_iff_ne.2 g']
        rfl
    · rw [if_neg w1]
      by_cases w2 : how = 2
      · rw [if_pos w2, if_pos p0, if_pos hqi]
        by_cases g9 : y.f0 = 9
        · rw [if_pos g9]
          refine hx _ _ ?_
          unfold sameB
          simp only [g9, ← e.1]
          simp
        · rw [if_neg g9]
          have g9' : (kindAt q).f0 ≠ 9 := by rw [← e.1]; exact g9
          by_cases gn : y.f1 = n
          · rw [if_pos gn]
            refine hx _ _ ?_
            unfold sameB
            simp only [e.1, ← gn, e.2 g9', beq_self_eq_true, Bool.true_or, Bool.and_self]
          · rw [if_neg gn]
            have gn' : ¬ n = (kindAt q).f1 := by rw [← e.2 g9']; exact fun h => gn h.symm
            by_cases g2 : y.f0 = 2
            · rw [if_pos g2]
              refine hx _ _ ?_
              unfold sameB
              simp only [g2, ← e.1]
              simp [gn']
            · rw [if_neg g2]
              refine hx _ _ ?_
              rw [e.1] at g2 ⊢
              unfold sameB
              rcases hk9 with h | h | h | h | h | h
              · exact absurd h g2
              · simp [h]
              · simp [h]
              · simp [h]
              · simp [h, gn']
              · exact absurd h g9'
      · rw [if_neg w2]
        by_cases w3 : how = 3
        · rw [if_pos w3, if_pos p0, if_pos (by omega)]
          have e1 : wrap64 ((q : Int) + 1) = (q : Int) + 1 := by unfold wrap64; omega
          rw [if_pos (by omega), if_pos (by omega)]
          have hlen : (l.eraseIdx ((q : Int)).toNat).length = l.length - 1 := by rw [Int.toNat_natCast, List.length_eraseIdx, if_pos hq]
          refine end_ev c0 c1 c2 c3 c4 c5 c6 c7 a0 _ false (by omega) ?_ k (by omega)
          have h38 := hg.1
          unfold fairB
          rw [hlen]
          have : ((l.length - 1) % 38 == 0) = false := by rw [beq_eq_false_iff_ne]; omega
          rw [this]; simp
        · rw [if_neg w3]
          exact end_ev c0 c1 c2 c3 c4 c5 c6 c7 a0 l _ (by omega) (fairB_good hg ▸ by simp) k (by omega)
  · rw [if_neg h0]
    exact end_ev c0 c1 c2 c3 c4 c5 c6 c7 a0 l _ (by omega) (fairB_good hg ▸ by simp) k (by omega)

theorem loop_ev (a0 : Int) (l1 : List Int) (at_ kind n how : Int) (d : Nat) : ∀ (l : List S32) (i : Nat), Good l → l.length = 38 * i → i + d = 4 → ∀ k, 500 + 2 * d + 2 ≤ k →
    broadsheetlaw27_FairTells.l0 k a0 l1 at_ kind n how l (i : Int) c0 c1 c2 c3 c4 c5 c6 c7 = some true := by
  induction d with
  | zero =>
    intro l i hg hl hi k hk
    obtain ⟨k, rfl⟩ : ∃ m, k = m + 1 := ⟨k - 1, by omega⟩
    simp only [broadsheetlaw27_FairTells.l0]
    have : decide ((i : Int) < 4) = false := by simp; omega
    rw [this, ite_self]
    exact tail_ev c0 c1 c2 c3 c4 c5 c6 c7 a0 l1 at_ kind n how l i hg (by omega) k (by omega)
  | succ d ih =>
    intro l i hg hl hi k hk
    obtain ⟨k, rfl⟩ : ∃ m, k = m + 1 := ⟨k - 1, by omega⟩
    simp only [broadsheetlaw27_FairTells.l0]
    by_cases hlt : (i : Int) < (l1.length : Int)
    · rw [if_pos hlt]
      have : decide ((i : Int) < 4) = true := by simp; omega
      rw [this]
      obtain ⟨k, rfl⟩ : ∃ m, k = m + 1 := ⟨k - 1, by omega⟩
      simp only [broadsheetlaw27_FairTells.j1, if_true]
      rw [if_pos (by omega), if_pos hlt, round_ev _ _ k (by omega)]
      simp only [Option.bind_some]
      rw [round0_ev _ k (by omega)]
      simp only [Option.bind_some]
      rw [same_ev _ k (by omega)]
      simp only [Option.bind_some, if_true]
      rw [if_pos (by rw [rnd_length]; omega), show wrap64 ((i : Int) + 1) = ((i + 1 : Nat) : Int) from by unfold wrap64; omega]
      exact ih _ (i + 1) (good_snoc hg _) (by rw [List.length_append, rnd_length]; omega) (by omega) k (by omega)
    · rw [if_neg hlt]
      exact tail_ev c0 c1 c2 c3 c4 c5 c6 c7 a0 l1 at_ kind n how l i hg (by omega) k (by omega)

theorem fairTells_ev (a0 : Int) (l1 : List Int) (at_ kind n how : Int) : broadsheetlaw27_FairTells.f 600 a0 l1 at_ kind n how c0 c1 c2 c3 c4 c5 c6 c7 = some true := by
  unfold broadsheetlaw27_FairTells.f
  exact loop_ev c0 c1 c2 c3 c4 c5 c6 c7 a0 l1 at_ kind n how 4 [] 0 good_nil rfl (by omega) 600 (by omega)
end
end Go.Proofs.Ytnjdimemiojoaaa.Ft
