/- Words for the row of AgendaPlays: an argument that is a slice of calls, opened. Conditions: as each theorem states them. -/
import Derived.Test.YtlccileccmiomaaRows
import Derived.Test.YtlccileccmiomaaLawJ
import Derived.WalkKit
import Derived.ProofKit
import Derived.OpenShut
import Derived.Deep.Slices
import Derived.Deep.Fields
import Derived.ChangeSame
namespace Go.Proofs.Ytlccileccmiomaa.RowWords
open Go.ChangeShapes Go.WideShapes Go.ChangeAt Go.RowKit Go.Deep
set_option linter.unusedVariables false
section
variable {H : Type} {enc : TypeId × Value → H} {w : World} {base : Nat} {spare : Nat → Bool} {held : Bool}
theorem ask_struct : ∃ f0 f1 f2 : Field, Try.prog.underlying 40 = some (.struct #[f0, f1, f2]) ∧ f0.type = 3 ∧ f1.type = 3 ∧ f2.type = 3 ∧ f0.offset = 0 ∧ f1.offset = 1 ∧ f2.offset = 2 := ⟨_, _, _, Try.underlying40, rfl, rfl, rfl, rfl, rfl, rfl⟩
theorem ask_size : Try.prog.cellsOf 40 = 3 := by kernel_rfl
theorem int_size : Try.prog.cellsOf 3 = 1 := by kernel_rfl
theorem one_int {fuel : Nat} {cs : List Value} {x : DataW H × List MemPlace} (h : DataW.trod enc Try.prog w base spare held fuel 3 cs = some x) : ∃ n : Int, cs = [.int .i64 n] := by
  obtain ⟨n, e, _⟩ := DataW.trod_int Try.underlying3 h
  exact ⟨n, e⟩
theorem args_asks {A : Option Addr} {len cap : Nat} {d : DataW H} {p : List MemPlace} (h : DataW.Trod enc Try.prog w base spare held 38 (.slice A len cap) d p) : ∃ l : List (Int × Int × Int), l.length = len ∧ ArgAsks w A l := by
  obtain ⟨fuel, hf⟩ := h
  rcases open_slice Try.underlying38 hf with ⟨hcs, _⟩ | ⟨a, l, c, m, n, D, Pl, hcs, _, hl, hm, hmm, _, hi⟩
  · simp [Value.cells] at hcs
    obtain ⟨rfl, rfl, rfl⟩ := hcs
    exact ⟨[], rfl, fun k hk => absurd hk (Nat.not_lt_zero _)⟩
  · simp [Value.cells] at hcs
    obtain ⟨rfl, rfl, rfl⟩ := hcs
    have hle : len ≤ m := by rw [hmm]; split <;> omega
    have key : ∀ i, i < len → ∃ q : Int × Int × Int, w.cell? (a.add (i * 3)) = some (.int .i64 q.1) ∧ w.cell? (a.add (i * 3 + 1)) = some (.int .i64 q.2.1) ∧ w.cell? (a.add (i * 3 + 2)) = some (.int .i64 q.2.2) := by
      intro i hlt
      obtain ⟨cs', hc, ht'⟩ := hi i (by omega)
      obtain ⟨f0, f1, f2, hs, e0, e1, e2, o0, o1, o2⟩ := ask_struct
      obtain ⟨ys, n', hn', hy, hlen, hyl, hfl⟩ := DataW.trod_struct hs ht'
      rw [ask_size] at hc hlen
      obtain ⟨_, hcl, hat⟩ := World.cells?_some hc
      match cs', hlen with
      | [c0, c1, c2], _ =>
        have g0 := hfl 0 f0 rfl
        have g1 := hfl 1 f1 rfl
        have g2 := hfl 2 f2 rfl
        rw [e0, o0, int_size] at g0
        rw [e1, o1, int_size] at g1
        rw [e2, o2, int_size] at g2
        obtain ⟨y0, hy0⟩ : ∃ y, ys[0]? = some y := ⟨_, List.getElem?_eq_getElem (by rw [hyl]; simp)⟩
        obtain ⟨y1, hy1⟩ : ∃ y, ys[1]? = some y := ⟨_, List.getElem?_eq_getElem (by rw [hyl]; simp)⟩
        obtain ⟨y2, hy2⟩ : ∃ y, ys[2]? = some y := ⟨_, List.getElem?_eq_getElem (by rw [hyl]; simp)⟩
        rw [hy0] at g0
        rw [hy1] at g1
        rw [hy2] at g2
        obtain ⟨n0, k0⟩ := one_int g0
        obtain ⟨n1, k1⟩ := one_int g1
        obtain ⟨n2, k2⟩ := one_int g2
        have k0' : c0 = .int .i64 n0 := by simpa using k0
        have k1' : c1 = .int .i64 n1 := by simpa using k1
        have k2' : c2 = .int .i64 n2 := by simpa using k2
        subst k0' k1' k2'
        refine ⟨(n0, n1, n2), ?_, ?_, ?_⟩
        · have := hat 0 (by decide)
          rw [Go.Deep.add_add] at this
          simpa using this
        · have := hat 1 (by decide)
          rw [Go.Deep.add_add] at this
          simpa using this
        · have := hat 2 (by decide)
          rw [Go.Deep.add_add] at this
          simpa using this
    have hex : ∀ n, n ≤ len → ∃ l : List (Int × Int × Int), l.length = n ∧ ∀ k (h : k < l.length), w.cell? (a.add (k * 3)) = some (.int .i64 l[k].1) ∧ w.cell? (a.add (k * 3 + 1)) = some (.int .i64 l[k].2.1) ∧ w.cell? (a.add (k * 3 + 2)) = some (.int .i64 l[k].2.2) := by
      intro n
      induction n with
      | zero => exact fun _ => ⟨[], rfl, fun k hk => absurd hk (Nat.not_lt_zero _)⟩
      | succ n ih =>
        intro hn
        obtain ⟨l, hl, hc⟩ := ih (by omega)
        obtain ⟨q, q0, q1, q2⟩ := key n (by omega)
        refine ⟨l ++ [q], by simp [hl], fun k hk => ?_⟩
        by_cases e : k < l.length
        · rw [List.getElem_append_left e]; exact hc k e
        · have : k = n := by simp at hk; omega
          subst this
          rw [List.getElem_append_right (by omega)]
          simp only [hl, Nat.sub_self, List.getElem_cons_zero]
          exact ⟨q0, q1, q2⟩
    obtain ⟨l, hl, hc⟩ := hex len (Nat.le_refl _)
    refine ⟨l, hl, fun k hk => ?_⟩
    obtain ⟨c0, c1, c2⟩ := hc k hk
    obtain ⟨b, off, spot⟩ := a
    have hspot : spot = none := by simpa [Addr.add] using World.cell?_spot (hc 0 (by omega)).1
    subst hspot
    rw [Go.WideShapes.add_plain] at c0 c1 c2
    exact ⟨b, off, rfl, World.block_lt_of_cell? w _ c0, c0, by rw [Nat.add_assoc]; exact c1, by rw [Nat.add_assoc]; exact c2⟩
end
end Go.Proofs.Ytlccileccmiomaa.RowWords
