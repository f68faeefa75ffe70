/- Slices of ints; broadsheetbook's Within and Same. Conditions: as each theorem states them. -/
import Derived.Test.YtlccileccmiomaaAgE
namespace Go.Proofs.Ytlccileccmiomaa
open Go.RowKit
set_option linter.unusedVariables false
set_option linter.unusedSimpArgs false

/-- The slice v shows the ints xs. -/
def Ints (w : World) (v : Value) (xs : List Int) : Prop :=
  (∃ A c, v = .slice A 0 c ∧ xs = []) ∨ ∃ g o c, v = .slice (some ⟨g, o, none⟩) xs.length c ∧ g < w.heap.size ∧ ∀ k (h : k < xs.length), w.cell? ⟨g, o + k, none⟩ = some (.int .i64 xs[k])
theorem Ints.below {A B : World} (h : Below A.heap.size A B) {v : Value} {xs : List Int} : Ints A v xs → Ints B v xs
  | .inl e => .inl e
  | .inr ⟨g, o, c, e, hg, hc⟩ => .inr ⟨g, o, c, e, Nat.lt_of_lt_of_le hg h.size, fun k hk => (h.cell (p := ⟨g, o + k, none⟩) hg).trans (hc k hk)⟩
theorem Ints.form {w : World} {v : Value} {xs : List Int} : Ints w v xs → ∃ A c, v = .slice A xs.length c
  | .inl ⟨A, c, e, h⟩ => ⟨A, c, by rw [e, h]; rfl⟩
  | .inr ⟨g, o, c, e, _⟩ => ⟨_, c, e⟩

theorem Ints.new (w : World) (t : TypeId) (xs : List Int) (c : Nat) : Ints (w.alloc (.cells (xs.map (Value.int .i64)).toArray t)) (.slice (some ⟨w.heap.size, 0, none⟩) xs.length c) xs :=
  .inr ⟨_, 0, c, rfl, by simp, fun k hk => (Blk.new w t (xs.map (Value.int .i64))).cell (0 + k) _ (by simp [List.getElem?_eq_getElem hk])⟩
/-- A row of ints of one's own shows them. -/
def Own1 (w : World) (base : Nat) (v : Value) (xs : List Int) : Prop := w.ownsRow base 3 1 v xs.length (xs.map (Value.int .i64))
theorem Own1.ints {w : World} {base : Nat} {v : Value} {xs : List Int} (h : Own1 w base v xs) : Ints w v xs := by
  rcases h.2 with ⟨rfl, h0⟩ | ⟨g, cap, cur, rfl, hb, hh, hle, hm, hs, ht⟩
  · exact .inl ⟨_, _, rfl, List.length_eq_zero_iff.1 h0⟩
  · refine .inr ⟨g, 0, cap, rfl, (Array.getElem?_eq_some_iff.1 hh).1, fun k hk => ?_⟩
    have h1 : (cur.toList.take (xs.length * 1))[k]? = (xs.map (Value.int .i64))[k]? := by rw [ht]
    rw [List.getElem?_take_of_lt (by omega), List.getElem?_map, List.getElem?_eq_getElem hk] at h1
    have h2 : cur[k]? = some (Value.int .i64 xs[k]) := by simpa using h1
    simp only [World.cell?, hh]
    simpa using h2
theorem Own1.ge {w : World} {base : Nat} {v : Value} {xs : List Int} (h : Own1 w base v xs) {j : Nat} (e : v.ownBlock = some j) : base ≤ j := by
  rcases h.2 with ⟨rfl, _⟩ | ⟨g, cap, cur, rfl, hb, _⟩
  · simp [Value.ownBlock] at e
  · have : g = j := by simpa [Value.ownBlock] using e
    omega
theorem info_int : (Try.prog.info? 3).map (fun i => (i.zero, i.size, i.bytes)) = some (some (.int .i64 0), 1, 8) := by kernel_rfl

def withinZ (n lo hi : Int) : Int := if lo ≤ n ∧ n ≤ hi then n else lo + (if n.tmod (hi - lo + 1) < 0 then n.tmod (hi - lo + 1) + hi - lo + 1 else n.tmod (hi - lo + 1))
theorem withinZ_ge (n lo hi : Int) (h : lo ≤ hi) : lo ≤ withinZ n lo hi ∧ withinZ n lo hi ≤ hi := by
  unfold withinZ
  have h1 : (n.tmod (hi - lo + 1)).natAbs < (hi - lo + 1).natAbs := by
    rw [Int.natAbs_tmod]
    exact Nat.mod_lt _ (by omega)
  split
  · assumption
  · split <;> omega
set_option maxHeartbeats 1000000 in
theorem within_any (n lo hi : Int) (h0 : -1000000000000 ≤ lo) (h1 : lo ≤ hi) (h2 : hi ≤ 1000000000000) (w : World) :
    Calls Try.prog 11 #[.int .i64 n, .int .i64 lo, .int .i64 hi] w fun e w' => e = .returned (.int .i64 (withinZ n lo hi)) ∧ w = w' := by
  have hm : (n.tmod (hi - lo + 1)).natAbs < (hi - lo + 1).natAbs := by
    rw [Int.natAbs_tmod]
    exact Nat.mod_lt _ (by omega)
  have e1 : wrap64 (hi - lo) = hi - lo := by unfold wrap64; omega
  have e2 : wrap64 (hi - lo + 1) = hi - lo + 1 := by unfold wrap64; omega
  have e3 : wrap64 (n.tmod (hi - lo + 1)) = n.tmod (hi - lo + 1) := by unfold wrap64; omega
  have e4 : ((hi - lo + 1 : Int) == 0) = false := by simp; omega
  go_enter Try.func11, Try.ntmps11
  unfold withinZ
  by_cases c1 : lo ≤ n
  · by_cases c2 : n ≤ hi
    · rw [if_pos ⟨c1, c2⟩]
      go_wp2
      go_ret
      exact ⟨rfl, rfl⟩
    · rw [if_neg (fun h => c2 h.2)]
      go_wp2
      all_goals go_ret
      all_goals exact ⟨rfl, rfl⟩
  · rw [if_neg (fun h => c1 h.1)]
    go_wp2
    all_goals go_ret
    all_goals exact ⟨rfl, rfl⟩

theorem same_len (A B : Option Addr) (n m c d : Nat) (h : n ≠ m) (w : World) :
    Calls Try.prog 16 #[.slice A n c, .slice B m d] w fun e w' => e = .returned (.bool false) ∧ Below w.heap.size w w' := by
  have h1 : (((n : Int)) == ((m : Int))) = false := by simp; omega
  go_enter Try.func16, Try.ntmps16
  go_wp2
  go_ret
  exact ⟨rfl, Below.refl _ _⟩
theorem same_nil (A B : Option Addr) (c d : Nat) (w : World) :
    Calls Try.prog 16 #[.slice A 0 c, .slice B 0 d] w fun e w' => e = .returned (.bool true) ∧ Below w.heap.size w w' := by
  go_enter Try.func16, Try.ntmps16
  go_wp2
  go_loopw [5] (fun v wr => v = .int .i64 0 ∧ Below w.heap.size w wr) (fun _ _ => 0)
  case atStart => exact ⟨rfl, Below.refl _ _⟩
  case round =>
    obtain ⟨rfl, hb⟩ := hrel
    go_wp2
    go_ret
    exact ⟨rfl, hb⟩
set_option maxHeartbeats 1000000 in
theorem same_go (g o c g' o' c' : Nat) (xs ys : List Int) (hl : ys.length = xs.length) (hsm : xs.length < 100000000000) (w : World) (hg : g < w.heap.size) (hg' : g' < w.heap.size) (hx : ∀ k (h : k < xs.length), w.cell? ⟨g, o + k, none⟩ = some (.int .i64 xs[k])) (hy : ∀ k (h : k < ys.length), w.cell? ⟨g', o' + k, none⟩ = some (.int .i64 ys[k])) :
    Calls Try.prog 16 #[.slice (some ⟨g, o, none⟩) xs.length c, .slice (some ⟨g', o', none⟩) xs.length c'] w fun e w' => e = .returned (.bool (decide (xs = ys))) ∧ Below w.heap.size w w' := by
  have HX := Lib.hid hx
  have HY := Lib.hid hy
  have HL := Lib.hid hl
  clear hx hy hl
  go_enter Try.func16, Try.ntmps16
  go_wp2
  go_loopw [5] (fun v wr => ∃ k : Nat, v = .int .i64 k ∧ k ≤ xs.length ∧ Hid (Below w.heap.size w wr ∧ xs.take k = ys.take k)) (fun v _ => xs.length - (intOf v).toNat)
  case atStart => exact ⟨0, rfl, Nat.zero_le _, Lib.hid ⟨Below.refl _ _, rfl⟩⟩
  case round =>
    obtain ⟨k, rfl, hk, HI⟩ := hrel
    by_cases hlt : k < xs.length
    · have hlt' : k < ys.length := by have := HL.out; omega
      have p0 := (HI.out.1.cell (p := ⟨g, o + k, none⟩) hg).trans (HX.out k hlt)
      have p1 := (HI.out.1.cell (p := ⟨g', o' + k, none⟩) hg').trans (HY.out k hlt')
      have HT : Hid (xs.take (k + 1) = ys.take (k + 1) ↔ xs[k] = ys[k]) := Lib.hid (by
        rw [List.take_succ_eq_append_getElem hlt, List.take_succ_eq_append_getElem hlt', HI.out.2, List.append_cancel_left_eq]
        simp)
      generalize xs[k] = x at *
      generalize ys[k] = y at *
      by_cases hxy : x = y
      · subst hxy
        have hb : (x == x) = true := by simp
        go_wp2
        go_quiet (fail)
        go_wp2
        go_roundw
        case rel => exact ⟨k + 1, by go_num, by omega, Lib.hid ⟨below_drewN HI.out.1 _, by simpa using HT.out⟩⟩
        case measure => simp [intOf]; omega
      · have hb : (x == y) = false := by simp [hxy]
        have HN := Lib.hid hxy
        clear hxy
        go_wp2
        go_quiet (fail)
        go_wp2
        go_ret
        refine ⟨?_, below_drewN HI.out.1 _⟩
        have : xs ≠ ys := fun e => HN.out (HT.out.1 (by rw [e]))
        simp [this]
    · obtain rfl : k = xs.length := by omega
      go_wp2
      go_ret
      refine ⟨?_, HI.out.1⟩
      have h2 := HI.out.2
      rw [List.take_length, ← HL.out, List.take_length] at h2
      simp [h2]
theorem same_any (u v : Value) (xs ys : List Int) (hsm : xs.length < 100000000000) (w : World) (hx : Ints w u xs) (hy : Ints w v ys) :
    Calls Try.prog 16 #[u, v] w fun e w' => e = .returned (.bool (decide (xs = ys))) ∧ Below w.heap.size w w' := by
  by_cases hl : ys.length = xs.length
  · rcases hx with ⟨A, c, rfl, rfl⟩ | ⟨g, o, c, rfl, hg, hc⟩
    · obtain ⟨B, d, rfl⟩ := hy.form
      have : ys = [] := List.length_eq_zero_iff.1 (by simpa using hl)
      subst this
      simpa using same_nil A B c d w
    · rcases hy with ⟨B, d, rfl, rfl⟩ | ⟨g', o', c', rfl, hg', hc'⟩
      · have : xs = [] := List.length_eq_zero_iff.1 (by simpa using hl.symm)
        subst this
        simpa using same_nil _ B c d w
      · have := same_go g o c g' o' c' xs ys hl hsm w hg hg' hc hc'
        rwa [hl]
  · obtain ⟨A, c, rfl⟩ := hx.form
    obtain ⟨B, d, rfl⟩ := hy.form
    have : xs ≠ ys := fun e => hl (by rw [e])
    have h2 := same_len A B xs.length ys.length c d (fun e => hl e.symm) w
    simpa [this] using h2
end Go.Proofs.Ytlccileccmiomaa
