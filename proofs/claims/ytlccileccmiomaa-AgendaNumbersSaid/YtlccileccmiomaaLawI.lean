/- An agenda and a list of pairs beside it. Conditions: as each theorem states them. -/
import Derived.Test.YtlccileccmiomaaLawH
namespace Go.Proofs.Ytlccileccmiomaa
open Go.RowKit
set_option linter.unusedVariables false
set_option linter.unusedSimpArgs false

/-- The slice v shows the pairs P; its block is none of the agenda's (agenda b, whose slice is va). -/
def PrsOf (w : World) (b : Nat) (va v : Value) (P : List (Int × Int)) : Prop :=
  (P = [] ∧ v = .slice none 0 0) ∨ ∃ g o c, v = .slice (some ⟨g, o, none⟩) P.length c ∧ P.length ≤ c ∧ c ≤ maxLen ∧ g < w.heap.size ∧ ¬ Foot b va g ∧ PrsAt w g o P
theorem PrsOf.chg {w w1 : World} {b : Nat} {va va1 v : Value} {P : List (Int × Int)} {S : Nat → Prop} (h : PrsOf w b va v P) (hc : Chg w w1 S) (hS : ∀ k, k < w.heap.size → S k → Foot b va k) (hf : ∀ k, k < w.heap.size → Foot b va1 k → Foot b va k) : PrsOf w1 b va1 v P := by
  rcases h with h | ⟨g, o, c, e, h1, h2, h3, h4, h5⟩
  · exact .inl h
  · exact .inr ⟨g, o, c, e, h1, h2, Nat.lt_of_lt_of_le h3 hc.size, fun hg => h4 (hf g h3 hg), fun k hk => ⟨(hc.cell (a := ⟨g, o + k * 2, none⟩) h3 (fun hs => h4 (hS g h3 hs))).trans (h5 k hk).1, (hc.cell (a := ⟨g, o + k * 2 + 1, none⟩) h3 (fun hs => h4 (hS g h3 hs))).trans (h5 k hk).2⟩⟩
/-- Blocks set aside. -/
def Aside (w : World) (b : Nat) (va : Value) (R : List (Nat × TypeId × List Value)) : Prop := ∀ r ∈ R, Blk w r.1 r.2.1 r.2.2 ∧ ¬ Foot b va r.1
theorem Aside.chg {w w1 : World} {b : Nat} {va va1 : Value} {R : List (Nat × TypeId × List Value)} {S : Nat → Prop} (h : Aside w b va R) (hc : Chg w w1 S) (hS : ∀ k, k < w.heap.size → S k → Foot b va k) (hf : ∀ k, k < w.heap.size → Foot b va1 k → Foot b va k) : Aside w1 b va1 R := fun r hr =>
  ⟨(h r hr).1.chg hc (fun hs => (h r hr).2 (hS _ (h r hr).1.lt hs)), fun hg => (h r hr).2 (hf _ (h r hr).1.lt hg)⟩
/-- An agenda in memory, a slice that shows the pairs P, and blocks set aside. -/
def Mx (w : World) (lo b : Nat) (m : List Ent) (ord : Int) (v : Value) (P : List (Int × Int)) (R : List (Nat × TypeId × List Value)) : Prop := ∃ va, AgS w lo b va m ord ∧ PrsOf w b va v P ∧ Aside w b va R
namespace Mx
variable {w w1 : World} {lo b : Nat} {m : List Ent} {ord : Int} {v : Value} {P : List (Int × Int)} {R : List (Nat × TypeId × List Value)}
theorem cut (h : Mx w lo b m ord v P R) (hb : Below w.heap.size w w1) : Mx w1 lo b m ord v P R := by
  obtain ⟨va, h1, h2, h3⟩ := h
  exact ⟨va, h1.below hb, h2.chg (Chg.of_below (S := fun _ => False) hb) (fun _ _ h => h.elim) (fun _ _ h => h), h3.chg (Chg.of_below (S := fun _ => False) hb) (fun _ _ h => h.elim) (fun _ _ h => h)⟩
theorem aside (h : Mx w lo b m ord v P R) (r : Nat × TypeId × List Value) (hr : r ∈ R) : Blk w r.1 r.2.1 r.2.2 := by
  obtain ⟨va, _, _, h3⟩ := h
  exact (h3 r hr).1
theorem box (h : Mx w lo b m ord v P R) (t : TypeId) (cs : List Value) : Mx (w.alloc (.cells cs.toArray t)) lo b m ord v P ((w.heap.size, t, cs) :: R) := by
  obtain ⟨va, h1, h2, h3⟩ := h
  have hb : Below w.heap.size w (w.alloc (.cells cs.toArray t)) := (Below.refl _ _).alloc (Nat.le_refl _) _
  refine ⟨va, h1.below hb, h2.chg (Chg.of_below (S := fun _ => False) hb) (fun _ _ h => h.elim) (fun _ _ h => h), fun r hr => ?_⟩
  rcases List.mem_cons.1 hr with rfl | hr
  · exact ⟨Blk.new w t cs, fun hf => Nat.lt_irrefl _ (h1.foot_lt _ hf)⟩
  · exact h3.chg (Chg.of_below (S := fun _ => False) hb) (fun _ _ h => h.elim) (fun _ _ h => h) r hr
theorem fewer (h : Mx w lo b m ord v P R) : Mx w lo b m ord v P [] := by
  obtain ⟨va, h1, h2, h3⟩ := h
  exact ⟨va, h1, h2, fun r hr => by cases hr⟩
theorem fst (h : Mx w lo b m ord v P R) : AgX w lo b m ord := by
  obtain ⟨va, h1, h2, _⟩ := h
  exact ⟨va, h1⟩
theorem form (h : Mx w lo b m ord v P R) : ∃ A c, v = .slice A P.length c := by
  obtain ⟨va, _, h2, _⟩ := h
  rcases h2 with ⟨e, rfl⟩ | ⟨g, o, c, e, _⟩
  · exact ⟨_, _, by rw [e]; rfl⟩
  · exact ⟨_, _, e⟩
/-- The list's place, where there is something. -/
theorem place (h : Mx w lo b m ord v P R) (hP : 0 < P.length) : ∃ g o c, v = .slice (some ⟨g, o, none⟩) P.length c ∧ P.length ≤ c ∧ g < w.heap.size ∧ PrsAt w g o P := by
  obtain ⟨va, _, h2, _⟩ := h
  rcases h2 with ⟨rfl, _⟩ | ⟨g, o, c, e, h1, _, h3, _, h5⟩
  · exact absurd hP (Nat.lt_irrefl _)
  · exact ⟨g, o, c, e, h1, h3, h5⟩
theorem at' {g o n c : Nat} (h : Mx w lo b m ord (.slice (some ⟨g, o, none⟩) n c) P R) (hP : 0 < P.length) : PrsAt w g o P := by
  obtain ⟨g', o', c', e, _, _, h5⟩ := h.place hP
  injection e with e1 e2 e3
  injection e1 with e1
  injection e1 with e1 e4
  subst e1 e4
  exact h5
theorem tail' {g o n c : Nat} {p : Int × Int} (h : Mx w lo b m ord (.slice (some ⟨g, o, none⟩) n c) (p :: P) R) (a : Option Addr) (ha : a = some ⟨g, o + 2, none⟩ ∨ P = []) (ha2 : ∃ g2 o2, a = some ⟨g2, o2, none⟩ ∧ g2 = g) : Mx w lo b m ord (.slice a P.length (c - 1)) P R := by
  obtain ⟨va, h1, h2, h3⟩ := h
  rcases h2 with ⟨e, _⟩ | ⟨g', o', c', e, k1, k2, k3, k4, k5⟩
  · cases e
  · injection e with e1 e2 e3
    injection e1 with e1
    injection e1 with e1 e4
    subst e1 e4 e3
    obtain ⟨g2, o2, rfl, rfl⟩ := ha2
    refine ⟨va, h1, .inr ⟨g2, o2, c - 1, rfl, by simp at k1; omega, by omega, k3, k4, ?_⟩, h3⟩
    rcases ha with ha | rfl
    · injection ha with ha
      injection ha with _ ha
      subst ha
      intro k hk
      have := k5 (k + 1) (by simpa using hk)
      rw [show o + 2 + k * 2 = o + (k + 1) * 2 by omega]
      exact this
    · intro k hk
      exact absurd hk (Nat.not_lt_zero _)
end Mx
theorem new_m (w : World) : Calls Try.prog 9 #[] w fun e w' => e = .returned (.pointer (some ⟨w.heap.size, 0, none⟩)) ∧ Mx w' w.heap.size w.heap.size [] 0 (.slice none 0 0) [] [] ∧ Below w.heap.size w w' :=
  (new_any w).mono fun _ _ ⟨h1, h2, h3⟩ => ⟨h1, ⟨_, h2, .inl ⟨rfl, rfl⟩, fun r hr => by cases hr⟩, h3⟩
theorem foot_new {w : World} {b : Nat} {v v' : Value} (ho : v'.ownBlock = v.ownBlock ∨ ∃ k, v'.ownBlock = some k ∧ w.heap.size ≤ k) : ∀ k, k < w.heap.size → Foot b v' k → Foot b v k := by
  intro k hk hf
  rcases hf with rfl | hf
  · exact .inl rfl
  · rcases ho with ho | ⟨q, hq, hge⟩
    · exact .inr (by rw [hf, ho])
    · rw [hq] at hf
      injection hf with hf
      omega
theorem add_m (lo b : Nat) (m : List Ent) (ord tm wh : Int) (v : Value) (P : List (Int × Int)) (R : List (Nat × TypeId × List Value)) (hsm : m.length < 100000000) (ho : ord < 100000000000) (w : World) (hb : lo ≤ w.heap.size) (h : Mx w lo b m ord v P R) :
    Calls Try.prog 10 #[.pointer (some ⟨b, 0, none⟩), .int .i64 tm, .int .i64 wh] w fun e w' => e = .returned (.tuple #[]) ∧ Mx w' lo b (insE ⟨tm, ord, wh⟩ m) (ord + 1) v P R ∧ Below lo w w' := by
  obtain ⟨va, h1, h2, h3⟩ := h
  refine (add_any lo b va m ord tm wh hsm ho w h1).mono ?_
  rintro e w' ⟨v', rfl, k1, k2, k3⟩
  exact ⟨rfl, ⟨v', k1, h2.chg k3 (fun _ _ h => h) (foot_new k2), h3.chg k3 (fun _ _ h => h) (foot_new k2)⟩, k3.below hb h1.foot_ge⟩
theorem due_m (lo b : Nat) (x : Ent) (m : List Ent) (ord now : Int) (v : Value) (P : List (Int × Int)) (R : List (Nat × TypeId × List Value)) (hsm : m.length < 10000000000) (hn : x.tm ≤ now) (w : World) (hb : lo ≤ w.heap.size) (h : Mx w lo b (x :: m) ord v P R) :
    Calls Try.prog 13 #[.pointer (some ⟨b, 0, none⟩), .int .i64 now] w fun e w' => e = .returned (.tuple #[.int .i64 x.wh, .bool true]) ∧ Mx w' lo b m ord v P R ∧ Below lo w w' := by
  obtain ⟨va, h1, h2, h3⟩ := h
  refine (due_yes lo b va x m ord now hsm hn w h1).mono ?_
  rintro e w' ⟨v', rfl, k1, k2, k3⟩
  exact ⟨rfl, ⟨v', k1, h2.chg k3 (fun _ _ h => h) (foot_new (.inl k2)), h3.chg k3 (fun _ _ h => h) (foot_new (.inl k2))⟩, k3.below hb h1.foot_ge⟩
theorem cancel_m (lo b : Nat) (m : List Ent) (ord what : Int) (v : Value) (P : List (Int × Int)) (R : List (Nat × TypeId × List Value)) (hsm : m.length < 1000000000) (w : World) (hb : lo ≤ w.heap.size) (h : Mx w lo b m ord v P R) :
    Calls Try.prog 17 #[.pointer (some ⟨b, 0, none⟩), .int .i64 what] w fun e w' => e = .returned (.int .i64 ((m.length : Int) - (keepW what m).length)) ∧ Mx w' lo b (keepW what m) ord v P R ∧ Below lo w w' := by
  obtain ⟨va, h1, h2, h3⟩ := h
  refine (cancel_any lo b va m ord what hsm w h1).mono ?_
  rintro e w' ⟨v', rfl, k1, k2, k3⟩
  exact ⟨rfl, ⟨v', k1, h2.chg k3 (fun _ _ h => h) (foot_new (.inl k2)), h3.chg k3 (fun _ _ h => h) (foot_new (.inl k2))⟩, k3.below hb h1.foot_ge⟩
/-- A row of pairs of one's own, laid above all that an agenda has. -/
theorem own_prs {w w1 : World} {lo b : Nat} {va v : Value} {m : List Ent} {ord : Int} {P : List (Int × Int)} (h : AgS w lo b va m ord) (ho : Own2 w1 w.heap.size v P) : PrsOf w1 b va v P := by
  rcases ho.2 with ⟨rfl, h0⟩ | ⟨g, cap, cur, rfl, hb, hh, hle, hm, hs, ht⟩
  · exact .inl ⟨List.length_eq_zero_iff.1 h0, rfl⟩
  · refine .inr ⟨g, 0, cap, rfl, hle, hm, (Array.getElem?_eq_some_iff.1 hh).1, fun hf => by have := h.foot_lt g hf; omega, fun k hk => ?_⟩
    obtain ⟨f0, f1⟩ := flat2_at P k hk
    have hcell : ∀ j u, (flat2 P)[j]? = some u → j < P.length * 2 → w1.cell? ⟨g, 0 + j, none⟩ = some u := by
      intro j u hj hlt
      rw [← ht, List.getElem?_take_of_lt hlt] at hj
      simp only [World.cell?, hh]
      simpa using hj
    exact ⟨by rw [Nat.add_comm 0] ; simpa using hcell (k * 2) _ f0 (by omega), by have := hcell (k * 2 + 1) _ f1 (by omega); rwa [← Nat.add_assoc] at this⟩
theorem put_m (lo b : Nat) (m : List Ent) (ord x y : Int) (v : Value) (P : List (Int × Int)) (R : List (Nat × TypeId × List Value)) (hP : P.length ≤ 100) (hs : P.Pairwise (fun a b => a.1 ≤ b.1)) (w : World) (h : Mx w lo b m ord v P R) :
    Calls Try.prog 28 #[v, .agg #[.int .i64 x, .int .i64 y]] w fun e w' => ∃ v', e = .returned v' ∧ Mx w' lo b m ord v' (insP (x, y) P) R ∧ Below w.heap.size w w' := by
  obtain ⟨va, h1, h2, h3⟩ := h
  have key : Calls Try.prog 28 #[v, .agg #[.int .i64 x, .int .i64 y]] w (PutPost w P (x, y)) := by
    rcases h2 with ⟨rfl, rfl⟩ | ⟨g, o, c, rfl, k1, k2, k3, _, k5⟩
    · exact put_nil x y w
    · exact put_go g o c P x y w hP k1 k2 k3 hs k5
  refine key.mono ?_
  rintro e w' ⟨v', rfl, k1, k2⟩
  exact ⟨v', rfl, ⟨va, h1.below k2, own_prs h1 k1, h3.chg (Chg.of_below (S := fun _ => False) k2) (fun _ _ h => h.elim) (fun _ _ h => h)⟩, k2⟩
/-- The list shown is turned for a row of one's own, laid above all. -/
theorem Mx.swapList {w w1 : World} {lo b : Nat} {m : List Ent} {ord : Int} {v v2 : Value} {P Q : List (Int × Int)} {R : List (Nat × TypeId × List Value)} (h : Mx w lo b m ord v P R) (hb : Below w.heap.size w w1) (ho : Own2 w1 w.heap.size v2 Q) : Mx w1 lo b m ord v2 Q R := by
  obtain ⟨va, h1, h2, h3⟩ := h
  exact ⟨va, h1.below hb, own_prs h1 ho, h3.chg (Chg.of_below (S := fun _ => False) hb) (fun _ _ h => h.elim) (fun _ _ h => h)⟩
theorem Own2.form {w : World} {base : Nat} {v : Value} {P : List (Int × Int)} (h : Own2 w base v P) : ∃ A c, v = .slice A P.length c := by
  rcases h.2 with ⟨rfl, h0⟩ | ⟨g, cap, cur, rfl, _⟩
  · exact ⟨_, _, by rw [h0]⟩
  · exact ⟨_, _, rfl⟩
theorem Own2.ge {w : World} {base : Nat} {v : Value} {P : List (Int × Int)} (h : Own2 w base v P) {j : Nat} (e : v.ownBlock = some j) : base ≤ j := by
  rcases h.2 with ⟨rfl, _⟩ | ⟨g, cap, cur, rfl, hb, _⟩
  · simp [Value.ownBlock] at e
  · have : g = j := by simpa [Value.ownBlock] using e
    omega
theorem Mx.cellsAt {w : World} {lo b : Nat} {m : List Ent} {ord : Int} {A : Option Addr} {c n : Nat} {P : List (Int × Int)} {R : List (Nat × TypeId × List Value)} (h : Mx w lo b m ord (.slice A n c) P R) (j : Nat) (hj : j < P.length) :
    ∃ g o, A = some ⟨g, o, none⟩ ∧ g < w.heap.size ∧ w.cell? ⟨g, o + j * 2, none⟩ = some (.int .i64 P[j].1) ∧ w.cell? ⟨g, o + j * 2 + 1, none⟩ = some (.int .i64 P[j].2) := by
  obtain ⟨g, o, c', e, _, h3, h5⟩ := h.place (by omega)
  injection e with e1 e2 e3
  exact ⟨g, o, e1, h3, h5 j hj⟩
theorem take_filter_yes {P : List (Int × Int)} {f : Int × Int → Bool} {j : Nat} (hj : j < P.length) (h : f P[j] = true) : (P.take (j + 1)).filter f = (P.take j).filter f ++ [P[j]] := by
  rw [List.take_succ_eq_append_getElem hj, List.filter_append, List.filter_cons_of_pos h]; rfl
theorem take_filter_no {P : List (Int × Int)} {f : Int × Int → Bool} {j : Nat} (hj : j < P.length) (h : f P[j] = false) : (P.take (j + 1)).filter f = (P.take j).filter f := by
  rw [List.take_succ_eq_append_getElem hj, List.filter_append, List.filter_cons_of_neg (by simp [h])]; simp
end Go.Proofs.Ytlccileccmiomaa
