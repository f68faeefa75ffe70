/- Two agendas in memory, apart from each other. Conditions: as each theorem states them. -/
import Derived.Test.YtlccileccmiomaaLawC
namespace Go.Proofs.Ytlccileccmiomaa
open Go.RowKit
set_option linter.unusedVariables false
set_option linter.unusedSimpArgs false

/-- Two agendas, apart. -/
def Ag2 (w : World) (lo a b : Nat) (ma mb : List Ent) (oa ob : Int) : Prop :=
  ∃ va vb, AgS w lo a va ma oa ∧ AgS w lo b vb mb ob ∧ ∀ k, Foot a va k → ¬ Foot b vb k
namespace Ag2
variable {w w1 : World} {lo a b : Nat} {ma mb m1 : List Ent} {oa ob o1 : Int}
theorem swap (h : Ag2 w lo a b ma mb oa ob) : Ag2 w lo b a mb ma ob oa := by
  obtain ⟨va, vb, h1, h2, h3⟩ := h
  exact ⟨vb, va, h2, h1, fun k hk hk' => h3 k hk' hk⟩
theorem cut (h : Ag2 w lo a b ma mb oa ob) (hb : Below w.heap.size w w1) : Ag2 w1 lo a b ma mb oa ob := by
  obtain ⟨va, vb, h1, h2, h3⟩ := h
  exact ⟨va, vb, h1.below hb, h2.below hb, h3⟩
theorem fst (h : Ag2 w lo a b ma mb oa ob) : AgX w lo a ma oa := by
  obtain ⟨va, vb, h1, _⟩ := h
  exact ⟨va, h1⟩
theorem step {va vb va' : Value} (h1 : AgS w lo a va ma oa) (h2 : AgS w lo b vb mb ob) (h3 : ∀ k, Foot a va k → ¬ Foot b vb k) (k1 : AgS w1 lo a va' m1 o1) (ho : va'.ownBlock = va.ownBlock ∨ ∃ k, va'.ownBlock = some k ∧ w.heap.size ≤ k) (hc : Chg w w1 (Foot a va)) : Ag2 w1 lo a b m1 mb o1 ob := by
  refine ⟨va', vb, k1, h2.chg hc (fun k hk hk' => h3 k hk' hk), fun k hk hk' => ?_⟩
  rcases hk with rfl | hk
  · exact h3 k (.inl rfl) hk'
  · rcases ho with ho | ⟨q, hq, hge⟩
    · exact h3 k (.inr (by rw [hk, ho])) hk'
    · have := h2.foot_lt k hk'
      rw [hq] at hk
      injection hk with hk
      omega
end Ag2
theorem new_2 (w0 w : World) (a : Nat) (hw : w0.heap.size ≤ w.heap.size) (h : AgX w w0.heap.size a [] 0) : Calls Try.prog 9 #[] w fun e w' => e = .returned (.pointer (some ⟨w.heap.size, 0, none⟩)) ∧ Ag2 w' w0.heap.size a w.heap.size [] [] 0 0 ∧ Below w.heap.size w w' := by
  obtain ⟨va, h⟩ := h
  refine (new_any w).mono ?_
  rintro e w' ⟨rfl, h1, h2⟩
  obtain ⟨⟨l, q1, q2, q3⟩, q4, q5⟩ := h1
  have h1' : AgS w' w0.heap.size w.heap.size (.slice none 0 0) [] 0 := ⟨⟨l, ⟨q1.blk, ⟨q1.row.1, by
    rcases q1.row.2 with h | ⟨g, cap, cur, e1, _⟩
    · exact .inl h
    · cases e1⟩, hw, q1.ne⟩, q2, q3⟩, q4, q5⟩
  refine ⟨rfl, ⟨va, _, h.below h2, h1', fun k hk hk' => ?_⟩, h2⟩
  have := h.foot_lt k hk
  rcases hk' with e | e
  · omega
  · simp [Value.ownBlock] at e
theorem add_2 (lo a b : Nat) (ma mb : List Ent) (oa ob tm wh : Int) (hsm : ma.length < 100000000) (ho : oa < 100000000000) (w : World) (hb : lo ≤ w.heap.size) (h : Ag2 w lo a b ma mb oa ob) :
    Calls Try.prog 10 #[.pointer (some ⟨a, 0, none⟩), .int .i64 tm, .int .i64 wh] w fun e w' => e = .returned (.tuple #[]) ∧ Ag2 w' lo a b (insE ⟨tm, oa, wh⟩ ma) mb (oa + 1) ob ∧ Below lo w w' := by
  obtain ⟨va, vb, h1, h2, h3⟩ := h
  refine (add_any lo a va ma oa tm wh hsm ho w h1).mono ?_
  rintro e w' ⟨v', rfl, k1, k2, k3⟩
  exact ⟨rfl, Ag2.step h1 h2 h3 k1 k2 k3, k3.below hb h1.foot_ge⟩
theorem cancel_2 (lo a b : Nat) (ma mb : List Ent) (oa ob what : Int) (hsm : ma.length < 1000000000) (w : World) (hb : lo ≤ w.heap.size) (h : Ag2 w lo a b ma mb oa ob) :
    Calls Try.prog 17 #[.pointer (some ⟨a, 0, none⟩), .int .i64 what] w fun e w' => e = .returned (.int .i64 ((ma.length : Int) - (keepW what ma).length)) ∧ Ag2 w' lo a b (keepW what ma) mb oa ob ∧ Below lo w w' := by
  obtain ⟨va, vb, h1, h2, h3⟩ := h
  refine (cancel_any lo a va ma oa what hsm w h1).mono ?_
  rintro e w' ⟨v', rfl, k1, k2, k3⟩
  exact ⟨rfl, Ag2.step h1 h2 h3 k1 (.inl k2) k3, k3.below hb h1.foot_ge⟩
/-- Two agendas whose blocks lie under hi, and a row of ints above it. -/
def Dry (w : World) (lo hi a b : Nat) (ma mb : List Ent) (oa ob : Int) : Prop :=
  ∃ va vb, AgS w lo a va ma oa ∧ AgS w lo b vb mb ob ∧ (∀ k, Foot a va k → ¬ Foot b vb k) ∧ (∀ k, Foot a va k → k < hi) ∧ (∀ k, Foot b vb k → k < hi)
theorem Ag2.dry {w : World} {lo a b : Nat} {ma mb : List Ent} {oa ob : Int} (h : Ag2 w lo a b ma mb oa ob) : Dry w lo w.heap.size a b ma mb oa ob := by
  obtain ⟨va, vb, h1, h2, h3⟩ := h
  exact ⟨va, vb, h1, h2, h3, h1.foot_lt, h2.foot_lt⟩
namespace Dry
variable {w w1 : World} {lo hi a b : Nat} {ma mb m1 : List Ent} {oa ob o1 : Int}
theorem swap (h : Dry w lo hi a b ma mb oa ob) : Dry w lo hi b a mb ma ob oa := by
  obtain ⟨va, vb, h1, h2, h3, h4, h5⟩ := h
  exact ⟨vb, va, h2, h1, fun k hk hk' => h3 k hk' hk, h5, h4⟩
theorem above (h : Dry w lo hi a b ma mb oa ob) (hb : Below hi w w1) : Dry w1 lo hi a b ma mb oa ob := by
  obtain ⟨va, vb, h1, h2, h3, h4, h5⟩ := h
  have hc : Chg w w1 (fun k => hi ≤ k) := ⟨hb.os, hb.tape, hb.output, hb.size, fun k hk hn => hb.block k (by omega)⟩
  exact ⟨va, vb, h1.chg hc (fun k hk hk' => by have := h4 k hk; omega), h2.chg hc (fun k hk hk' => by have := h5 k hk; omega), h3, h4, h5⟩
theorem fst (h : Dry w lo hi a b ma mb oa ob) : AgX w lo a ma oa := by
  obtain ⟨va, vb, h1, _⟩ := h
  exact ⟨va, h1⟩
end Dry
/-- Due that gives: a row of ints above hi is as it was. -/
theorem due_d (lo hi a b : Nat) (x : Ent) (ma mb : List Ent) (oa ob now : Int) (hsm : ma.length < 10000000000) (hn : x.tm ≤ now) (w : World) (hb : lo ≤ w.heap.size) (h : Dry w lo hi a b (x :: ma) mb oa ob) :
    Calls Try.prog 13 #[.pointer (some ⟨a, 0, none⟩), .int .i64 now] w fun e w' => e = .returned (.tuple #[.int .i64 x.wh, .bool true]) ∧ Dry w' lo hi a b ma mb oa ob ∧ Below lo w w' ∧ Chg w w' (fun k => k < hi) := by
  obtain ⟨va, vb, h1, h2, h3, h4, h5⟩ := h
  refine (due_yes lo a va x ma oa now hsm hn w h1).mono ?_
  rintro e w' ⟨v', rfl, k1, k2, k3⟩
  have hf : ∀ k, Foot a v' k → Foot a va k := fun k hk => by unfold Foot at *; rwa [k2] at hk
  exact ⟨rfl, ⟨v', vb, k1, h2.chg k3 (fun k hk hk' => h3 k hk' hk), fun k hk => h3 k (hf k hk), fun k hk => h4 k (hf k hk), h5⟩, k3.below hb h1.foot_ge, k3.mono (fun k _ hk => h4 k hk)⟩
theorem Own1.under {w w1 : World} {hi lo : Nat} {v : Value} {xs : List Int} (h : Own1 w lo v xs) (hc : Chg w w1 (fun k => k < hi)) (hl : hi ≤ lo) : Own1 w1 lo v xs := ownsRow_chg h hc (fun k hk hk' => by have := h.ge hk; omega)
theorem Own1.keep {w w1 : World} {hi lo : Nat} {v : Value} {xs : List Int} (h : Own1 w lo v xs) (hv : ∀ k, v.ownBlock = some k → k < hi) (hb : Below hi w w1) : Own1 w1 lo v xs :=
  ownsRow_chg h (S := fun k => hi ≤ k) ⟨hb.os, hb.tape, hb.output, hb.size, fun k hk hn => hb.block k (by omega)⟩ (fun k hk hk' => by have := hv k hk; omega)
theorem Own1.lt {w : World} {lo : Nat} {v : Value} {xs : List Int} (h : Own1 w lo v xs) : ∀ k, v.ownBlock = some k → k < w.heap.size := by
  intro k hk
  rcases h.2 with ⟨rfl, _⟩ | ⟨g, cap, cur, rfl, _, hh, _⟩
  · simp [Value.ownBlock] at hk
  · have : g = k := by simpa [Value.ownBlock] using hk
    subst this
    exact (Array.getElem?_eq_some_iff.1 hh).1
theorem Own1.form {w : World} {lo : Nat} {v : Value} {xs : List Int} (h : Own1 w lo v xs) : ∃ A c, v = .slice A xs.length c := h.ints.form
theorem Own1.cut {w w1 : World} {hi : Nat} {v : Value} {xs : List Int} (h : Own1 w hi v xs) (hb : Below w.heap.size w w1) : Own1 w1 hi v xs := ownsRow_chg h (Chg.of_below (S := fun _ => False) hb) (fun _ _ h => h)
end Go.Proofs.Ytlccileccmiomaa
