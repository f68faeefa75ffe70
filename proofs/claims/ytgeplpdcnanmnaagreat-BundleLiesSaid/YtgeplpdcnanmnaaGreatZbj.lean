/- What an owner signs verifies; the keys of the first owners are unlike. No walk. Conditions: as each theorem states them. -/
import Derived.Test.YtgeplpdcnanmnaaGreatZan
import Derived.Test.YtgeplpdcnanmnaaGreatZav
import Derived.Test.YtgeplpdcnanmnaaGreatZaq
import Derived.Test.YtgeplpdcnanmnaaGreatZbf
import Derived.Test.YtgeplpdcnanmnaaGreatZar
import Derived.Test.YtgeplpdcnanmnaaGreatZas
import Derived.Test.YtgeplpdcnanmnaaGreatZat
namespace Go.Proofs.YtgeplpdcnanmnaaGreat
open Go.RowKit
set_option linter.unusedVariables false
set_option linter.unusedSimpArgs false

theorem snoc_lt {α : Type} (l : List α) (x d : α) (i : Nat) (h : i < l.length) : (l ++ [x]).getD i d = l.getD i d := by
 simp only [List.getD_eq_getElem?_getD]
 rw [List.getElem?_append_left h]
theorem snoc_eq {α : Type} (l : List α) (x d : α) (i : Nat) (h : l.length = i) : (l ++ [x]).getD i d = x := by
 subst h
 simp [List.getD_eq_getElem?_getD]
theorem sigAcc_succ (seed : List UInt8) (key d : Int) (n : Nat) : sigAcc seed key d (n + 1) = sigAcc seed key d n ++ [partS seed key d (n / 2) (n % 2)] := rfl
theorem abN_succ (l : List (List UInt8)) (n : Nat) : abN l (n + 1) = abN l n ++ [tagH 14 [l.getD (2 * n) [], l.getD (2 * n + 1) []]] := rfl
theorem sigPath_succ (seed : List UInt8) (ix : Int) (h : Nat) : sigPath seed ix (h + 1) = sigPath seed ix h ++ [(levelS seed h).getD (sibS ix h).toNat []] := rfl
theorem sigAcc_get (seed : List UInt8) (key d : Int) (n i : Nat) (h : i < n) : (sigAcc seed key d n).getD i [] = partS seed key d (i / 2) (i % 2) := by
 induction n with
 | zero => omega
 | succ n ih =>
  rw [sigAcc_succ]
  by_cases hi : i < n
  ·rw [snoc_lt _ _ _ _ (by rw [sigAcc_length]; exact hi)]
   exact ih hi
  ·obtain rfl : i = n := by omega
   rw [snoc_eq _ _ _ _ (sigAcc_length seed key d _)]
theorem rootPart_of (seed : List UInt8) (key d : Int) (i : Nat) : rootPart d i (partS seed key d (i / 2) (i % 2)) = shownS seed key ((i / 2 : Nat) : Int) ((i % 2 : Nat) : Int) := by
 unfold rootPart partS
 by_cases h : (bitS d (i / 2) == ((i % 2 : Nat) : Int)) = true
 ·rw [if_pos h, if_pos h]; rfl
 ·rw [if_neg h, if_neg h]
theorem rootAcc_even (seed : List UInt8) (key d : Int) (ls : List (List UInt8)) (h : ∀ i, i < 64 → ls.getD i [] = partS seed key d (i / 2) (i % 2)) : ∀ j, j ≤ 32 → rootAcc d ls (2 * j) = pubAcc seed key j
 | 0, _ => rfl
 | j + 1, hj => by
  have e : rootAcc d ls (2 * (j + 1)) = (rootAcc d ls (2 * j) ++ rootPart d (2 * j) (ls.getD (2 * j) [])) ++ rootPart d (2 * j + 1) (ls.getD (2 * j + 1) []) := rfl
  rw [e, rootAcc_even seed key d ls h j (by omega), h _ (by omega), h _ (by omega), rootPart_of, rootPart_of]
  have e1 : 2 * j / 2 = j := by omega
  have e2 : 2 * j % 2 = 0 := by omega
  have e3 : (2 * j + 1) / 2 = j := by omega
  have e4 : (2 * j + 1) % 2 = 1 := by omega
  rw [e1, e2, e3, e4]
  rfl
theorem root_of (seed msg : List UInt8) (key : Int) : rootS msg (partsS seed key msg) = publicS seed key := by
 have e := rootAcc_even seed key (digS msg) (partsS seed key msg) (fun i hi => sigAcc_get seed key (digS msg) 64 i hi) 32 (Nat.le_refl _)
 unfold rootS publicS
 rw [← e]
theorem abN_get (l : List (List UInt8)) (n i : Nat) (h : i < n) : (abN l n).getD i [] = tagH 14 [l.getD (2 * i) [], l.getD (2 * i + 1) []] := by
 induction n with
 | zero => omega
 | succ n ih =>
  rw [abN_succ]
  by_cases hi : i < n
  ·rw [snoc_lt _ _ _ _ (by rw [abN_length]; exact hi)]
   exact ih hi
  ·obtain rfl : i = n := by omega
   rw [snoc_eq _ _ _ _ (abN_length l _)]
theorem sigPath_get (seed : List UInt8) (ix : Int) (n h : Nat) (hh : h < n) : (sigPath seed ix n).getD h [] = (levelS seed h).getD (sibS ix h).toNat [] := by
 induction n with
 | zero => omega
 | succ n ih =>
  rw [sigPath_succ]
  by_cases hi : h < n
  ·rw [snoc_lt _ _ _ _ (by rw [sigPath_length]; exact hi)]
   exact ih hi
  ·obtain rfl : h = n := by omega
   rw [snoc_eq _ _ _ _ (sigPath_length seed ix _)]
def nodeI (ix : Nat) (h : Nat) : Nat := ix / 2 ^ h
theorem node_ok : ∀ i : Fin 16, ∀ h : Fin 4, (nodeI i.val (h.val + 1)) * 2 ^ (h.val + 1) < 16 ∧ ((sideS (i.val : Int) h.val == 0) = true → nodeI i.val h.val = 2 * nodeI i.val (h.val + 1) ∧ (sibS (i.val : Int) h.val).toNat = 2 * nodeI i.val (h.val + 1) + 1) ∧ ((sideS (i.val : Int) h.val == 0) = false → nodeI i.val h.val = 2 * nodeI i.val (h.val + 1) + 1 ∧ (sibS (i.val : Int) h.val).toNat = 2 * nodeI i.val (h.val + 1)) := by decide +kernel
theorem up_of (seed : List UInt8) (ix : Nat) (hix : ix < 16) : ∀ h, h ≤ 4 → upS (ix : Int) (sigPath seed (ix : Int) 4) ((levelS seed 0).getD ix []) h = (levelS seed h).getD (nodeI ix h) []
 | 0, _ => by show _ = (levelS seed 0).getD (ix / 2 ^ 0) []; rw [Nat.pow_zero, Nat.div_one]; rfl
 | h + 1, hh => by
  obtain ⟨k1, k2, k3⟩ := node_ok ⟨ix, hix⟩ ⟨h, by omega⟩
  simp only at k1 k2 k3
  have hp := level_pow seed (h + 1) hh
  have hlen : nodeI ix (h + 1) < (levelS seed (h + 1)).length := by
   refine Nat.lt_of_mul_lt_mul_right (a := 2 ^ (h + 1)) ?_
   rw [hp]; exact k1
  have hl2 : (levelS seed (h + 1)).length = (levelS seed h).length / 2 := by
   show (abN (levelS seed h) ((levelS seed h).length / 2)).length = _
   rw [abN_length]
  have e : (levelS seed (h + 1)).getD (nodeI ix (h + 1)) [] = tagH 14 [(levelS seed h).getD (2 * nodeI ix (h + 1)) [], (levelS seed h).getD (2 * nodeI ix (h + 1) + 1) []] := abN_get (levelS seed h) _ _ (by omega)
  rw [e]
  unfold upS
  rw [up_of seed ix hix h (by omega), sigPath_get seed _ 4 h (by omega)]
  cases hs : (sideS (ix : Int) h == 0) with
  | true =>
   obtain ⟨a, b⟩ := k2 hs
   rw [if_pos rfl, a, b]
  | false =>
   obtain ⟨a, b⟩ := k3 hs
   rw [if_neg (by decide), a, b]
theorem getD_mem {ls : List (List UInt8)} {x : List UInt8} (h : x ∈ ls) : ∃ i, i < ls.length ∧ ls.getD i [] = x := by
 obtain ⟨i, hi, rfl⟩ := List.getElem_of_mem h
 exact ⟨i, hi, by simp [List.getD_eq_getElem?_getD, List.getElem?_eq_getElem hi]⟩
theorem sigAcc_32 (seed : List UInt8) (key d : Int) (n : Nat) : ∀ x ∈ sigAcc seed key d n, x.length = 32 := fun x hx => by
 obtain ⟨i, hi, e⟩ := getD_mem hx
 rw [sigAcc_length] at hi
 rw [← e, sigAcc_get seed key d n i hi]
 exact partS_length _ _ _ _ _
theorem sigPath_32 (seed : List UInt8) (ix : Int) (h0 : 0 ≤ ix) (h1 : ix < 16) (n : Nat) (hn : n ≤ 4) : ∀ x ∈ sigPath seed ix n, x.length = 32 := fun x hx => by
 obtain ⟨i, hi, e⟩ := getD_mem hx
 rw [sigPath_length] at hi
 rw [← e, sigPath_get seed ix n i hi]
 have hs := sib_lt seed ix h0 h1 i (by omega)
 rw [List.getD_eq_getElem?_getD, List.getElem?_eq_getElem hs]
 exact levelS_32 seed i _ hs
theorem right_of (seed : List UInt8) (ix : Int) (h0 : 0 ≤ ix) (h1 : ix < 16) (msg : List UInt8) : rightB (signS seed ix msg) = true := by
 have e1 : (signS seed ix msg).parts.all len32 = true := by
  rw [List.all_eq_true]
  intro x hx
  have := sigAcc_32 seed ix (digS msg) 64 x hx
  simp [len32, this]
 have e2 : (signS seed ix msg).path.all len32 = true := by
  rw [List.all_eq_true]
  intro x hx
  have := sigPath_32 seed ix h0 h1 4 (Nat.le_refl _) x hx
  simp [len32, this]
 have e3 : (signS seed ix msg).parts.length = 64 := partsS_length seed ix msg
 have e4 : (signS seed ix msg).path.length = 4 := sigPath_length seed ix 4
 have e5 : (signS seed ix msg).index = ix := rfl
 unfold rightB
 rw [e1, e2, e3, e4, e5]
 simp [h0, h1]
theorem verify_of (seed : List UInt8) (ix : Int) (h0 : 0 ≤ ix) (h1 : ix < 16) (msg : List UInt8) : verifyB (ownerS seed) msg (signS seed ix msg) = true := by
 obtain ⟨k, rfl⟩ := Int.eq_ofNat_of_zero_le h0
 have hk : k < 16 := by omega
 unfold verifyB
 rw [right_of seed k h0 h1 msg, Bool.true_and, beq_iff_eq]
 have e1 : (signS seed (k : Int) msg).index = (k : Int) := rfl
 have e2 : (signS seed (k : Int) msg).path = sigPath seed (k : Int) 4 := rfl
 have e3 : (signS seed (k : Int) msg).parts = partsS seed (k : Int) msg := rfl
 rw [e1, e2, e3, root_of]
 have e4 : publicS seed (k : Int) = (levelS seed 0).getD k [] := by
  show _ = (pubs seed 16).getD k []
  unfold pubs
  rw [List.getD_eq_getElem?_getD, List.getElem?_map, List.getElem?_range hk]
  rfl
 rw [e4, up_of seed k hk 4 (Nat.le_refl _)]
 have e5 : nodeI k 4 = 0 := by unfold nodeI; omega
 rw [e5]
 rfl
theorem small_of (seed : List UInt8) (ix : Int) (h0 : 0 ≤ ix) (h1 : ix < 16) (msg : List UInt8) : SmallSig (signS seed ix msg) := by
 have e3 : (signS seed ix msg).parts.length = 64 := partsS_length seed ix msg
 have e4 : (signS seed ix msg).path.length = 4 := sigPath_length seed ix 4
 refine ⟨by omega, by omega, fun i hi => ?_, fun i hi => ?_⟩
 ·have := sigAcc_32 seed ix (digS msg) 64 _ (List.getElem_mem hi)
  omega
 ·have := sigPath_32 seed ix h0 h1 4 (Nat.le_refl _) _ (List.getElem_mem hi)
  omega
theorem keys_apart : ownerS (seedS 1) ≠ ownerS (seedS 2) ∧ ownerS (seedS 1) ≠ ownerS (seedS 3) ∧ ownerS (seedS 2) ≠ ownerS (seedS 3) := by
 have h1 := ky1
 have h2 := ky2
 have h3 := ky3
 have e1 : seedS 1 = tagH 99 [[ub ((1 : Nat) : Int)]] := rfl
 have e2 : seedS 2 = tagH 99 [[ub ((2 : Nat) : Int)]] := rfl
 have e3 : seedS 3 = tagH 99 [[ub ((3 : Nat) : Int)]] := rfl
 rw [← e1] at h1
 rw [← e2] at h2
 rw [← e3] at h3
 refine ⟨fun e => ?_, fun e => ?_, fun e => ?_⟩
 ·rw [e, h2] at h1; exact absurd h1 (by decide)
 ·rw [e, h3] at h1; exact absurd h1 (by decide)
 ·rw [e, h3] at h2; exact absurd h2 (by decide)
theorem wits_right (n : Nat) (hn : n ≤ 3) : witsN (witS n) n = true := by
 obtain ⟨a12, a13, a23⟩ := keys_apart
 have l1 := ownerS_length (seedS 1)
 have l2 := ownerS_length (seedS 2)
 have l3 := ownerS_length (seedS 3)
 obtain rfl | rfl | rfl | rfl : n = 0 ∨ n = 1 ∨ n = 2 ∨ n = 3 := by omega
 ·rfl
 ·have e : witS 1 = [ownerS (seedS 1)] := rfl
  rw [e]
  generalize ownerS (seedS 1) = K1 at *
  simp [witsN, anyB, len32, l1]
 ·have e : witS 2 = [ownerS (seedS 1), ownerS (seedS 2)] := rfl
  rw [e]
  generalize ownerS (seedS 1) = K1 at *
  generalize ownerS (seedS 2) = K2 at *
  simp [witsN, anyB, len32, l1, l2, a12]
 ·have e : witS 3 = [ownerS (seedS 1), ownerS (seedS 2), ownerS (seedS 3)] := rfl
  rw [e]
  generalize ownerS (seedS 1) = K1 at *
  generalize ownerS (seedS 2) = K2 at *
  generalize ownerS (seedS 3) = K3 at *
  simp [witsN, anyB, len32, l1, l2, l3, a12, a13, a23]
theorem pol_right (n : Nat) (q : Int) (h1 : 1 ≤ n) (hn : n ≤ 3) (hq : 1 ≤ q) (hq2 : q ≤ (n : Int)) : polB (polS n q) = true := by
 have l0 : (polS n q).log.length = 32 := ownerS_length (seedS 0)
 have lw : (polS n q).wits.length = n := witS_length n
 have hw : witsN (polS n q).wits n = true := wits_right n hn
 have lq : (polS n q).quorum = q := rfl
 unfold polB
 rw [l0, lw, hw, lq]
 have a1 : (1 : Nat) ≤ n := h1
 have a2 : n ≤ 4 := by omega
 simp [a1, a2, hq, hq2]
theorem pol_small (n : Nat) (q : Int) (hn : n ≤ 10) (hq : 1 ≤ q) (hq2 : q ≤ 10) : SmallPol (polS n q) := by
 have l0 : (polS n q).log.length = 32 := ownerS_length (seedS 0)
 have lw : (polS n q).wits.length = n := witS_length n
 have lq : (polS n q).quorum = q := rfl
 refine ⟨by omega, by omega, fun i hi => ?_, by omega, by omega⟩
 have h : (polS n q).wits[i] ∈ witS n := List.getElem_mem hi
 simp only [witS, List.mem_map] at h
 obtain ⟨k, _, e⟩ := h
 rw [← e, ownerS_length]
 decide
end Go.Proofs.YtgeplpdcnanmnaaGreat
