/- slices.Chunk at bytes, 64 at a time. Conditions: as each theorem states them. -/
import Derived.Test.YtgeplpdcnanmnaaGreatZae
import Derived.RangeFuncNested
import Derived.RangeFuncBox
import Derived.RangeFuncLeaves
import Derived.RangeFuncCalls
import Derived.Shelf.Abstract
import Derived.WalkKit
import Derived.OwnWalkIn
import Derived.TacticsInMore
import Derived.LoopNIn
import Derived.LoopIn
import Derived.Maps.AppendAt
namespace Go.Proofs.YtgeplpdcnanmnaaGreat
open Go.RowKit Go.Shelf
attribute [local go_sem] Oper.semAt_some
set_option linter.unusedVariables false
set_option linter.unusedSimpArgs false

structure BelX (n h : Nat) (w w' : World) : Prop where
 os : w'.os = w.os
 tape : w'.tape = w.tape
 output : w'.output = w.output
 size : w.heap.size ≤ w'.heap.size
 block : ∀ k, k < n → k ≠ h → w'.heap[k]? = w.heap[k]?
namespace BelX
variable {n h : Nat} {w w1 w2 : World}
theorem refl (n h : Nat) (w : World) : BelX n h w w := ⟨rfl, rfl, rfl, Nat.le_refl _, fun _ _ _ => rfl⟩
theorem trans (a : BelX n h w w1) (b : BelX n h w1 w2) : BelX n h w w2 := ⟨b.os.trans a.os, b.tape.trans a.tape, b.output.trans a.output, Nat.le_trans a.size b.size, fun k hk hn => (b.block k hk hn).trans (a.block k hk hn)⟩
theorem drew (a : BelX n h w w1) : BelX n h w w1.drew := ⟨a.os, a.tape, a.output, a.size, a.block⟩
theorem cell (a : BelX n h w w1) {p : Addr} (hp : p.block < n) (hn : p.block ≠ h) : w1.cell? p = w.cell? p := World.cell?_of_block (a.block _ hp hn)
theorem of_below {n' : Nat} (a : Below n' w w1) (hn : n ≤ n') : BelX n h w w1 := ⟨a.os, a.tape, a.output, a.size, fun k hk _ => a.block k (Nat.lt_of_lt_of_le hk hn)⟩
end BelX
theorem belX_b {n h : Nat} {w : World} (hn : n ≤ w.heap.size) (W : World) (l : Nat) (o o' : Obj) (hl : w.heap.size ≤ l) (hh : W.heap[l]? = some o) (h1 : o.isCells = false) (h2 : o.isWalk = false) : BelX n h W (W.putObj l o') :=
 .of_below (belowK_b (n₀ := n) hn W l o o' hl hh h1 h2) (Nat.le_refl _)
theorem grown_drew0 (w : World) : w.grownBy w.drew none := ⟨rfl, rfl, rfl, Nat.le_refl _, fun _ _ _ => rfl⟩

set_option maxRecDepth 100000 in
set_option maxHeartbeats 2000000 in
theorem chunk1_in (F : Fence) (n : Nat) (hF : F.fn 215) (hro : F.round = none) (hn : 1 ≤ n) (lp Bs Bn n₀ h g m cap : Nat) (hm : 64 * m ≤ cap) (hcap : cap ≤ maxLen) (hsm : 64 * m < 100000000000000) (hBs0 : Bs < n₀) (hBs1 : Bs ≠ h) (hBn0 : Bn < n₀) (hBn1 : Bn ≠ h) (J Jx : Nat → World → Prop)
  (W : World) (hn₀ : n₀ ≤ W.heap.size) (hJ : AbidesFrom W.heap.size J)
  (hY : ∀ x W, J x W → x < m → YieldAt F (n - 1) Tryz.prog lp #[.slice (some ⟨g, 64 * x, none⟩) 64 64] W fun e W' =>
   (e = .returned (.bool true) ∧ J (x + 1) W' ∧ BelX n₀ h W W') ∨ (e = .returned (.bool false) ∧ Jx (x + 1) W'))
  (hBs : W.cell? ⟨Bs, 0, none⟩ = some (.slice (some ⟨g, 0, none⟩) (64 * m : Nat) cap)) (hBn : W.cell? ⟨Bn, 0, none⟩ = some (.int .i64 64)) (h0 : J 0 W) :
  CallsIn F n Tryz.prog 215 #[.func (.yield lp) #[] #[], .pointer (some ⟨Bs, 0, none⟩), .pointer (some ⟨Bn, 0, none⟩)] W fun e W' => (∃ v, e = .returned v) ∧
   (J m W' ∨ (∃ k, k ≤ m ∧ Jx k W')) := by
 refine callsIn_of_wp Tryz.func215 rfl hF ?_ hro
 simp only [Tryz.ntmps215, List.size_toArray, List.length_cons, List.length_nil, Nat.reduceAdd, Nat.reduceSub, Array.replicate_succ, Array.replicate_zero, List.push_toArray, List.append_toArray, List.nil_append, List.cons_append]
 gi_wp2
 gi_loopw [4] (fun i wr => ∃ k : Nat, k ≤ m ∧ i = .int .i64 (64 * k) ∧ Hid (J k wr ∧ BelX n₀ h W wr))
  (fun i _ => 64 * m - (intOf i).toNat)
 case atStart => exact ⟨0, Nat.zero_le _, rfl, Lib.hid ⟨h0, BelX.refl _ _ _⟩⟩
 case round =>
  obtain ⟨k, hk, rfl, HI⟩ := hrel
  have p0 := (HI.out.2.cell (p := ⟨Bs, 0, none⟩) hBs0 hBs1).trans hBs
  have p1 := (HI.out.2.cell (p := ⟨Bn, 0, none⟩) hBn0 hBn1).trans hBn
  by_cases hlt : k < m
  ·have y1 : (64 : Int) * (k : Int) < ((64 * m : Nat) : Int) := by omega
   have y2 : (0 : Int) ≤ 64 * (k : Int) := by omega
   have y3 : (64 : Int) ≤ ((64 * m : Nat) : Int) - 64 * (k : Int) := by omega
   have et : (64 * (k : Int)).toNat = 64 * k := by omega
   have ec : ¬ cap = 64 * k := by omega
   have el : ¬ (((64 * m - 64 * k : Nat) : Int) < 64) := by omega
   have ew : IntKind.i64.wrap (64 * (k : Int) + 64) = 64 * (k : Int) + 64 := IntWalk.i64_in _ (by omega)
   have et2 : (64 * (k : Int) + 64).toNat = 64 * k + 64 := by omega
   have es : 64 * k + 64 - 64 * k = 64 := by omega
   have eb : (64 : Int) * (k : Int) + 64 ≤ (cap : Int) := by omega
   have ez : ¬ (64 = 0) := by decide
   have e9 : ¬ (64 * k + 64 = 64 * k) := by omega
   have hJ2 : J k wr.drew := hJ _ _ _ none HI.out.1 (grown_drew0 _) (fun r e => by cases e)
   obtain ⟨fn, tmps, assign, body, hy, hR⟩ := hY k _ hJ2 hlt
   clear hJ2
   gi_wp2
   gi_region
   all_goals
    gi_wp2
    refine hR.mono ?_
    rintro e W3 (⟨rfl, hJ3, hk3⟩ | ⟨rfl, hJx3⟩)
    ·have HJ3 := Lib.hid (And.intro hJ3 hk3)
     have p2 := ((HI.out.2.drew.trans hk3).cell (p := ⟨Bn, 0, none⟩) hBn0 hBn1).trans hBn
     clear hJ3 hk3
     gi_wp2
     go_roundw
     case rel => exact ⟨k + 1, by omega, by go_num, Lib.hid ⟨HJ3.out.1, HI.out.2.drew.trans HJ3.out.2⟩⟩
     case measure => simp [intOf]; omega
    ·have HJ3 := Lib.hid hJx3
     clear hJx3
     gi_wp2
     refine bodyPost_ret (results_none rfl _ _ _) rfl ?_
     exact ⟨⟨_, rfl⟩, .inr ⟨_, by omega, HJ3.out⟩⟩
  ·obtain rfl : k = m := by omega
   gi_wp2
   go_end0
   exact ⟨⟨_, rfl⟩, .inl HI.out.1⟩
end Go.Proofs.YtgeplpdcnanmnaaGreat
