/- SHA-256 as a plain function. Conditions: as each theorem states them. -/
import Derived.Test.YtgeplpdcnanmnaaGreatZad
import Derived.Test.YtgeplpdcnanmnaaGreatZaa
namespace Go.Proofs.YtgeplpdcnanmnaaGreat
open Go.RowKit
set_option linter.unusedVariables false

def shaH : List Int := [1779033703, 3144134277, 1013904242, 2773480762, 1359893119, 2600822924, 528734635, 1541459225]
def shaRun (s : List Int) (f : List UInt8) : Nat → List Int
 | 0 => s
 | n + 1 => mixF shaK (shaRun s f n) ((f.drop (64 * n)).take 64)
theorem shaRun_length (s : List Int) (f : List UInt8) (h : s.length = 8) (n : Nat) : (shaRun s f n).length = 8 := by
 induction n with
 | zero => exact h
 | succ n ih => exact mixF_length _ _ _ ih
theorem shaRun_more (s : List Int) (f g : List UInt8) : ∀ n, 64 * n ≤ f.length → shaRun s (f ++ g) n = shaRun s f n
 | 0, _ => rfl
 | n + 1, h => by
  show mixF shaK (shaRun s (f ++ g) n) _ = mixF shaK (shaRun s f n) _
  rw [shaRun_more s f g n (by omega), List.drop_append_of_le_length (by omega), List.take_append_of_le_length (by rw [List.length_drop]; omega)]
def zn (n : Nat) : Nat := (119 - n % 64) % 64
theorem zn_at (n : Nat) : (n + 1 + zn n) % 64 = 56 := by unfold zn; omega
theorem zn_first (n j : Nat) (h : (n + 1 + j) % 64 = 56) (hj : j ≤ zn n) : j = zn n := by unfold zn at *; omega
def lens (n : Nat) : Nat → List UInt8
 | 0 => []
 | j + 1 => lens n j ++ [ub ((n : Int) * 8 / (2 ^ (8 * (7 - j)) : Nat))]
theorem lens_length (n j : Nat) : (lens n j).length = j := by
 induction j with
 | zero => rfl
 | succ j ih => show (lens n j ++ [_]).length = _; rw [List.length_append, ih]; rfl
def pad (l : List UInt8) (j : Nat) : List UInt8 := l ++ 128 :: List.replicate j 0
theorem pad_length (l : List UInt8) (j : Nat) : (pad l j).length = l.length + 1 + j := by simp [pad]; omega
def full (l : List UInt8) : List UInt8 := pad l (zn l.length) ++ lens l.length 8
theorem full_length (l : List UInt8) : (full l).length = l.length + 1 + zn l.length + 8 := by unfold full; rw [List.length_append, pad_length, lens_length]
theorem full_cut (l : List UInt8) : (full l).length % 64 = 0 := by
 rw [full_length]
 have := zn_at l.length
 omega
def be4 (x : Int) : List UInt8 := [ub (x / 16777216), ub (x / 65536), ub (x / 256), ub x]
def outs (s : List Int) : Nat → List UInt8
 | 0 => []
 | j + 1 => outs s j ++ be4 (s.getD j 0)
theorem outs_length (s : List Int) (j : Nat) : (outs s j).length = 4 * j := by
 induction j with
 | zero => rfl
 | succ j ih => show (outs s j ++ be4 _).length = _; rw [List.length_append, ih]; rfl
def sha (l : List UInt8) : List UInt8 := outs (shaRun shaH (full l) ((full l).length / 64)) 8
theorem sha_length (l : List UInt8) : (sha l).length = 32 := outs_length _ _
end Go.Proofs.YtgeplpdcnanmnaaGreat
