/- slices.Chunk at bytes: the iterator, and its stops. Conditions: as each theorem states them. -/
import Derived.Test.YtgeplpdcnanmnaaGreatZaf
import Derived.Test.YtgeplpdcnanmnaaGreatZaa
namespace Go.Proofs.YtgeplpdcnanmnaaGreat
open Go.RowKit Go.Shelf
attribute [local go_sem] Oper.semAt_some
set_option linter.unusedVariables false
set_option linter.unusedSimpArgs false

set_option maxHeartbeats 1000000 in
theorem chunk_any (A : Option Addr) (len cap : Nat) (w : World) :
  Calls Tryz.prog 211 #[.slice A len cap, .int .i64 64] w fun e w' => e = .returned (.func (.func 215) #[] #[.pointer (some ⟨w.heap.size, 0, none⟩), .pointer (some ⟨w.heap.size + 1, 0, none⟩)]) ∧ w' = (w.alloc (.cells #[.slice A len cap] 24)).alloc (.cells #[.int .i64 64] 3) := by
 have hk := blk2 w [.slice A len cap] [.int .i64 64] 24 3 _ rfl
 have c0 := hk.2.2.cell 0 _ rfl
 clear hk
 go_enter Tryz.func211, Tryz.ntmps211
 go_wp2
 go_ret
 exact ⟨rfl, rfl⟩
def fins (m k : Nat) : List (Fin m) := (List.finRange m).take k
theorem fins_succ {m k : Nat} (h : k < m) : fins m (k + 1) = fins m k ++ [⟨k, h⟩] := by
 unfold fins
 rw [List.take_succ_eq_append_getElem (by simpa using h)]
 simp
theorem fins_length {m k : Nat} (h : k ≤ m) : (fins m k).length = k := by
 unfold fins
 rw [List.length_take, List.length_finRange]
 omega
theorem chunk_stops (F : Fence) (n : Nat) (hF : F.fn 215) (hro : F.round = none) (hn : 1 ≤ n) (Bs Bn n₀ h g m cap : Nat) (hm : 64 * m ≤ cap) (hcap : cap ≤ maxLen) (hsm : 64 * m < 100000000000000) (hBs0 : Bs < n₀) (hBs1 : Bs ≠ h) (hBn0 : Bn < n₀) (hBn1 : Bn ≠ h) (w : World) (hn₀ : n₀ ≤ w.heap.size)
  (hBs : w.cell? ⟨Bs, 0, none⟩ = some (.slice (some ⟨g, 0, none⟩) (64 * m : Nat) cap)) (hBn : w.cell? ⟨Bn, 0, none⟩ = some (.int .i64 64)) :
  SeqStopsK F n Tryz.prog 215 #[.pointer (some ⟨Bs, 0, none⟩), .pointer (some ⟨Bn, 0, none⟩)] (fun x : Fin m => #[Value.slice (some ⟨g, 64 * x.val, none⟩) 64 64]) (BelX n₀ h) (fun ys => ys = fins m m) (fun pre => True) m w := fun lp J Jx W hW hJ _ hY h0 => by
 refine (chunk1_in F n hF hro hn lp Bs Bn n₀ h g m cap hm hcap hsm hBs0 hBs1 hBn0 hBn1 (fun k W => J (fins m k) W) (fun k W => Jx (fins m k) W) W (Nat.le_trans hn₀ hW.size) (fun s X Y row hs hg hr => hJ _ X Y row hs hg hr)
  (fun x W' hj hx => ?_) ((hW.cell (p := ⟨Bs, 0, none⟩) (Nat.lt_of_lt_of_le hBs0 hn₀)).trans hBs) ((hW.cell (p := ⟨Bn, 0, none⟩) (Nat.lt_of_lt_of_le hBn0 hn₀)).trans hBn) h0).mono ?_
 ·have := hY (fins m x) ⟨x, hx⟩ W' hj (by rw [fins_length (by omega)]; exact hx)
  rw [fins_succ hx]
  exact this
 ·rintro e W' ⟨he, h | ⟨k, _, h⟩⟩
  ·exact ⟨he, .inl ⟨_, rfl, h⟩⟩
  ·exact ⟨he, .inr ⟨_, trivial, h⟩⟩
end Go.Proofs.YtgeplpdcnanmnaaGreat
