/- Heaps of entries, as lists: plain mathematics, no program. Conditions: as each theorem states them. -/
import Derived.Lib.Hide
namespace Go.Proofs.Ytlccileccmiomaa
set_option linter.unusedVariables false

structure Ent where
  tm : Int
  ord : Int
  wh : Int
  deriving DecidableEq
def zE : Ent := ⟨0, 0, 0⟩
def cmpE (a b : Ent) : Int := if a.tm < b.tm ∨ (a.tm = b.tm ∧ a.ord < b.ord) then -1 else if a = b then 0 else 1
def Ent.le (a b : Ent) : Prop := a.tm < b.tm ∨ (a.tm = b.tm ∧ a.ord ≤ b.ord)
theorem cmpE_neg (a b : Ent) : cmpE a b < 0 ↔ ¬ b.le a := by
  unfold cmpE Ent.le
  split
  · constructor <;> intro _ <;> omega
  · split <;> constructor <;> intro h <;> omega
theorem le_refl' (a : Ent) : a.le a := .inr ⟨rfl, Int.le_refl _⟩
theorem le_trans' {a b c : Ent} (h : a.le b) (k : b.le c) : a.le c := by unfold Ent.le at *; omega
theorem le_total' {a b : Ent} (h : ¬ a.le b) : b.le a := by unfold Ent.le at *; omega

def gE (l : List Ent) (i : Nat) : Ent := l.getD i zE
theorem gE_at {l : List Ent} {i : Nat} (h : i < l.length) : gE l i = l[i] := by simp [gE, List.getD_eq_getElem?_getD, List.getElem?_eq_getElem h]
theorem gE_set (l : List Ent) (i : Nat) (x : Ent) (k : Nat) (hi : i < l.length) : gE (l.set i x) k = if k = i then x else gE l k := by
  unfold gE
  rw [List.getD_eq_getElem?_getD, List.getD_eq_getElem?_getD, List.getElem?_set]
  by_cases h : i = k
  · subst h; simp [hi]
  · rw [if_neg h, if_neg (fun e => h e.symm)]
def sw (l : List Ent) (i j : Nat) : List Ent := (l.set i (gE l j)).set j (gE l i)
theorem sw_length (l : List Ent) (i j : Nat) : (sw l i j).length = l.length := by simp [sw]
theorem gE_sw (l : List Ent) (i j k : Nat) (hi : i < l.length) (hj : j < l.length) : gE (sw l i j) k = if k = j then gE l i else if k = i then gE l j else gE l k := by
  unfold sw
  rw [gE_set _ _ _ _ (by simpa using hj), gE_set _ _ _ _ hi]
theorem sw_perm (l : List Ent) (i j : Nat) (hi : i < l.length) (hj : j < l.length) : (sw l i j).Perm l := by
  unfold sw
  rw [gE_at hi, gE_at hj]
  exact List.set_set_perm hi hj

/-! ### Up -/
def HeapFrom (l : List Ent) (i0 n : Nat) : Prop := ∀ k, 0 < k → k < n → i0 ≤ (k - 1) / 2 → (gE l ((k - 1) / 2)).le (gE l k)
def UpInv (l : List Ent) (j : Nat) : Prop :=
  (∀ k, 0 < k → k < l.length → k ≠ j → (gE l ((k - 1) / 2)).le (gE l k)) ∧ (∀ k, 0 < k → k < l.length → (k - 1) / 2 = j → 0 < j → (gE l ((j - 1) / 2)).le (gE l k))
theorem up_start {l : List Ent} (x : Ent) (h : HeapFrom l 0 l.length) : UpInv (l ++ [x]) l.length := by
  have e : ∀ k, k < l.length → gE (l ++ [x]) k = gE l k := fun k hk => by simp [gE, List.getD_eq_getElem?_getD, List.getElem?_append_left hk]
  constructor
  · intro k h0 h1 hne
    rw [List.length_append, List.length_singleton] at h1
    rw [e k (by omega), e ((k - 1) / 2) (by omega)]
    exact h k h0 (by omega) (by omega)
  · intro k h0 h1 h2 h3
    rw [List.length_append, List.length_singleton] at h1
    omega
theorem up_step {l : List Ent} {j : Nat} (hj : j < l.length) (h0 : 0 < j) (h : UpInv l j) (hlt : ¬ (gE l ((j - 1) / 2)).le (gE l j)) : UpInv (sw l ((j - 1) / 2) j) ((j - 1) / 2) := by
  have hi : (j - 1) / 2 < l.length := by omega
  generalize hI : (j - 1) / 2 = i at *
  have hlt' := le_total' hlt
  constructor
  · intro k k0 k1 hne
    rw [sw_length] at k1
    rw [gE_sw l i j _ hi hj, gE_sw l i j _ hi hj]
    by_cases e1 : k = j
    · subst e1
      rw [if_pos rfl, if_neg (by omega), if_pos hI]
      exact hlt'
    · rw [if_neg e1, if_neg hne]
      by_cases e2 : (k - 1) / 2 = j
      · rw [if_pos e2]
        have := h.2 k k0 k1 e2 h0
        rw [hI] at this
        exact this
      · rw [if_neg e2]
        by_cases e3 : (k - 1) / 2 = i
        · rw [if_pos e3]
          have := h.1 k k0 k1 e1
          rw [e3] at this
          exact le_trans' hlt' this
        · rw [if_neg e3]
          exact h.1 k k0 k1 e1
  · intro k k0 k1 e hi0
    rw [sw_length] at k1
    have h3 := h.1 i hi0 hi (by omega)
    rw [gE_sw l i j _ hi hj, gE_sw l i j _ hi hj, if_neg (by omega), if_neg (by omega)]
    by_cases e1 : k = j
    · rw [if_pos e1]; exact h3
    · rw [if_neg e1, if_neg (by omega)]
      have := h.1 k k0 k1 e1
      rw [e] at this
      exact le_trans' h3 this
theorem up_end {l : List Ent} {j : Nat} (h : UpInv l j) (hd : j = 0 ∨ (gE l ((j - 1) / 2)).le (gE l j)) : HeapFrom l 0 l.length := by
  intro k k0 k1 _
  by_cases e : k = j
  · subst e
    rcases hd with hd | hd
    · omega
    · exact hd
  · exact h.1 k k0 k1 e

/-! ### Down -/
def DownInv (l : List Ent) (i0 i n : Nat) : Prop :=
  (∀ k, 0 < k → k < n → i0 ≤ (k - 1) / 2 → (k - 1) / 2 ≠ i → (gE l ((k - 1) / 2)).le (gE l k)) ∧ (∀ k, 0 < k → k < n → (k - 1) / 2 = i → i0 < i → (i - 1) / 2 ≥ i0 → (gE l ((i - 1) / 2)).le (gE l k))
theorem down_start {l : List Ent} {i0 n : Nat} (h : HeapFrom l (i0 + 1) n) : DownInv l i0 i0 n :=
  ⟨fun k k0 k1 h1 hne => h k k0 k1 (by omega), fun k k0 k1 e h1 => by omega⟩
/-- j: the least child of i. -/
theorem down_step {l : List Ent} {i0 i j n : Nat} (hn : n ≤ l.length) (hj : j < n) (hj0 : 0 < j) (hp : (j - 1) / 2 = i) (hi0 : i0 ≤ i) (h : DownInv l i0 i n)
    (hmin : ∀ k, 0 < k → k < n → (k - 1) / 2 = i → (gE l j).le (gE l k)) (hlt : ¬ (gE l i).le (gE l j)) : DownInv (sw l i j) i0 j n := by
  have hi : i < l.length := by omega
  have hjl : j < l.length := by omega
  have hlt' := le_total' hlt
  constructor
  · intro k k0 k1 h1 hne
    rw [gE_sw l i j _ hi hjl, gE_sw l i j _ hi hjl, if_neg hne]
    by_cases e1 : (k - 1) / 2 = i
    · rw [if_pos e1]
      by_cases e2 : k = j
      · rw [if_pos e2]; exact hlt'
      · rw [if_neg e2, if_neg (by omega)]
        exact hmin k k0 k1 e1
    · rw [if_neg e1]
      by_cases e2 : k = j
      · subst e2; exact absurd hp e1
      · rw [if_neg e2]
        by_cases e3 : k = i
        · rw [if_pos e3]
          subst e3
          exact h.2 j hj0 hj hp (by omega) h1
        · rw [if_neg e3]
          exact h.1 k k0 k1 h1 e1
  · intro k k0 k1 e h1 h2
    rw [gE_sw l i j _ hi hjl, gE_sw l i j _ hi hjl, hp, if_neg (by omega), if_pos rfl, if_neg (by omega), if_neg (by omega)]
    have := h.1 k k0 k1 (by omega) (by omega)
    rw [e] at this
    exact this
theorem down_end {l : List Ent} {i0 i n : Nat} (h : DownInv l i0 i n) (hd : ∀ k, 0 < k → k < n → (k - 1) / 2 = i → (gE l i).le (gE l k)) : HeapFrom l i0 n := by
  intro k k0 k1 h1
  by_cases e : (k - 1) / 2 = i
  · rw [e]; exact hd k k0 k1 e
  · exact h.1 k k0 k1 h1 e

theorem heap_min {l : List Ent} (h : HeapFrom l 0 l.length) : ∀ k, k < l.length → (gE l 0).le (gE l k) := by
  intro k
  induction k using Nat.strongRecOn with
  | _ k ih =>
    intro hk
    by_cases e : k = 0
    · subst e; exact le_refl' _
    · exact le_trans' (ih ((k - 1) / 2) (by omega) (by omega)) (h k (by omega) hk (by omega))
end Go.Proofs.Ytlccileccmiomaa
