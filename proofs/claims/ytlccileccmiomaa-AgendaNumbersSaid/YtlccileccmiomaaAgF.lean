/- slices.Values, slices.AppendSeq and slices.Collect at a pile's entries. Conditions: as each theorem states them. -/
import Derived.Test.YtlccileccmiomaaAgE
import Derived.RangeFuncNested
import Derived.RangeFuncBox
import Derived.RangeFuncLeaves
import Derived.RangeFuncCalls
import Derived.Shelf.Abstract
import Derived.WalkKit
import Derived.OwnWalkIn
import Derived.TacticsInMore
import Derived.LoopNIn
import Derived.LoopIn
import Derived.Maps.AppendAt
namespace Go.Proofs.Ytlccileccmiomaa
open Go.RowKit Go.Shelf
attribute [local go_sem] Oper.semAt_some
set_option linter.unusedVariables false
set_option linter.unusedSimpArgs false

theorem take_snoc (l : List Ent) (k : Nat) (h : k < l.length) : l.take (k + 1) = l.take k ++ [gE l k] := by
  rw [List.take_add_one, gE_at h]; simp [List.getElem?_eq_getElem h]

set_option maxRecDepth 100000 in
set_option maxHeartbeats 2000000 in
theorem values1_in (F : Fence) (n : Nat) (hF : F.fn 34) (hro : F.round = none) (hn : 1 ≤ n) (lp Bs n₀ g cap : Nat) (l : List Ent) (rest : List Value) (hsm : l.length < 100000000000) (hb : g < n₀) (J Jx : List Ent → World → Prop)
    (W : World) (hn₀ : n₀ ≤ W.heap.size) (hJ : AbidesFrom W.heap.size J)
    (hY : ∀ pre x W, J pre W → pre.length < l.length → YieldAt F (n - 1) Try.prog lp #[.agg #[.int .i64 x.tm, .int .i64 x.ord, .int .i64 x.wh]] W fun e W' =>
      (e = .returned (.bool true) ∧ J (pre ++ [x]) W' ∧ Below n₀ W W') ∨ (e = .returned (.bool false) ∧ Jx (pre ++ [x]) W'))
    (hBs : W.cell? ⟨Bs, 0, none⟩ = some (.slice (some ⟨g, 0, none⟩) l.length cap)) (hc : ∀ k, k < l.length → W.cell? ⟨g, k * 3, none⟩ = some (.int .i64 (gE l k).tm) ∧ W.cell? ⟨g, k * 3 + 1, none⟩ = some (.int .i64 (gE l k).ord) ∧ W.cell? ⟨g, k * 3 + 2, none⟩ = some (.int .i64 (gE l k).wh)) (h0 : J [] W) :
    CallsIn F n Try.prog 34 #[.func (.yield lp) #[] #[], .pointer (some ⟨Bs, 0, none⟩)] W fun e W' => (∃ v, e = .returned v) ∧
      ((∃ ys, ys = l ∧ J ys W') ∨ (∃ pre, pre <+: l ∧ Jx pre W')) := by
  have HC := Lib.hid hc
  clear hc
  refine callsIn_of_wp Try.func34 rfl hF ?_ hro
  simp only [Try.ntmps34, List.size_toArray, List.length_cons, List.length_nil, Nat.reduceAdd, Nat.reduceSub, Array.replicate_succ, Array.replicate_zero, List.push_toArray, List.append_toArray, List.nil_append, List.cons_append]
  gi_wp2
  gi_loopw [7] (fun i wr => ∃ k : Nat, k ≤ l.length ∧ i = .int .i64 k ∧ Hid (J (l.take k) wr ∧ Below n₀ W wr))
    (fun i _ => l.length - (intOf i).toNat)
  case atStart => exact ⟨0, Nat.zero_le _, rfl, Lib.hid ⟨h0, Below.refl _ _⟩⟩
  case round =>
    obtain ⟨k, hk, rfl, HI⟩ := hrel
    by_cases hlt : k < l.length
    · obtain ⟨q0, q1, q2⟩ := HC.out k hlt
      have p0 := (HI.out.2.cell (p := ⟨g, k * 3, none⟩) hb).trans q0
      have p1 := (HI.out.2.cell (p := ⟨g, k * 3 + 1, none⟩) hb).trans q1
      have p2 := (HI.out.2.cell (p := ⟨g, k * 3 + 2, none⟩) hb).trans q2
      clear q0 q1 q2
      have HT := Lib.hid (take_snoc l k hlt)
      generalize gE l k = x at *
      have hsz := Nat.le_trans hn₀ HI.out.2.size
      have hJ2 : J (l.take k) (wr.alloc (.cells #[.int .i64 x.tm, .int .i64 x.ord, .int .i64 x.wh] 49)) := hJ _ _ _ none HI.out.1 (World.grownBy_alloc _ _ none) (fun r e => by cases e)
      obtain ⟨fn, tmps, assign, body, hy, hR⟩ := hY _ x _ hJ2 (by rw [List.length_take]; omega)
      have HB2 : Hid (Below n₀ W (wr.alloc (.cells #[.int .i64 x.tm, .int .i64 x.ord, .int .i64 x.wh] 49))) := Lib.hid (HI.out.2.alloc (Nat.le_trans hn₀ HI.out.2.size) _)
      clear hJ2
      gi_wp2
      refine hR.mono ?_
      rintro e W3 (⟨rfl, hJ3, hk3⟩ | ⟨rfl, hJx3⟩)
      · have HJ3 := Lib.hid hJ3
        clear hJ3
        gi_wp2
        go_roundw
        case rel => exact ⟨k + 1, by omega, by simp, Lib.hid ⟨by rw [HT.out]; exact HJ3.out, HB2.out.trans hk3⟩⟩
        case measure => simp [intOf]; omega
      · have HJ3 := Lib.hid hJx3
        clear hJx3
        gi_wp2
        refine bodyPost_ret (results_none rfl _ _ _) rfl ?_
        exact ⟨⟨_, rfl⟩, .inr ⟨_, ⟨l.drop (k + 1), by rw [← HT.out]; exact List.take_append_drop _ _⟩, HJ3.out⟩⟩
    · obtain rfl : k = l.length := by omega
      gi_wp2
      go_end0
      exact ⟨⟨_, rfl⟩, .inl ⟨_, rfl, by have := HI.out.1; rwa [List.take_length] at this⟩⟩

set_option maxRecDepth 100000 in
set_option maxHeartbeats 1000000 in
theorem values1_nil_in (F : Fence) (n : Nat) (hF : F.fn 34) (hro : F.round = none) (lp Bs : Nat) (J : List Ent → World → Prop) (W : World) (A : Option Addr) (c : Nat) (hBs : W.cell? ⟨Bs, 0, none⟩ = some (.slice A 0 c)) (h0 : J [] W) :
    CallsIn F n Try.prog 34 #[.func (.yield lp) #[] #[], .pointer (some ⟨Bs, 0, none⟩)] W fun e W' => (∃ v, e = .returned v) ∧ J [] W' := by
  refine callsIn_of_wp Try.func34 rfl hF ?_ hro
  simp only [Try.ntmps34, List.size_toArray, List.length_cons, List.length_nil, Nat.reduceAdd, Nat.reduceSub, Array.replicate_succ, Array.replicate_zero, List.push_toArray, List.append_toArray, List.nil_append, List.cons_append]
  gi_wp2
  gi_loopw [7] (fun i wr => i = .int .i64 0 ∧ J [] wr) (fun _ _ => 0)
  case atStart => exact ⟨rfl, h0⟩
  case round =>
    obtain ⟨rfl, hJs⟩ := hrel
    gi_wp2
    go_end0
    exact ⟨⟨_, rfl⟩, hJs⟩

set_option maxHeartbeats 1000000 in
theorem values_any (a : Option Addr) (len cap : Nat) (w : World) :
    Calls Try.prog 26 #[.slice a len cap] w fun e w' => e = .returned (.func (.func 34) #[] #[.pointer (some ⟨w.heap.size, 0, none⟩)]) ∧ w' = w.alloc (.cells #[.slice a len cap] 43) := by
  go_enter Try.func26, Try.ntmps26
  go_wp2
  go_ret
  exact ⟨rfl, rfl⟩

/-- The slice v shows the entries l, in a block below n₀; or it is empty. -/
def Shows (n₀ : Nat) (W : World) (v : Value) (l : List Ent) : Prop :=
  (∃ A c, v = .slice A 0 c ∧ l = []) ∨ ∃ g cap, v = .slice (some ⟨g, 0, none⟩) l.length cap ∧ g < n₀ ∧ ∀ k, k < l.length → W.cell? ⟨g, k * 3, none⟩ = some (.int .i64 (gE l k).tm) ∧ W.cell? ⟨g, k * 3 + 1, none⟩ = some (.int .i64 (gE l k).ord) ∧ W.cell? ⟨g, k * 3 + 2, none⟩ = some (.int .i64 (gE l k).wh)
theorem Shows.below {n₀ : Nat} {A B : World} (h : Below n₀ A B) {v : Value} {l : List Ent} : Shows n₀ A v l → Shows n₀ B v l
  | .inl e => .inl e
  | .inr ⟨g, cap, e, hg, hc⟩ => .inr ⟨g, cap, e, hg, fun k hk => ⟨(h.cell (p := ⟨g, k * 3, none⟩) hg).trans (hc k hk).1, (h.cell (p := ⟨g, k * 3 + 1, none⟩) hg).trans (hc k hk).2.1, (h.cell (p := ⟨g, k * 3 + 2, none⟩) hg).trans (hc k hk).2.2⟩⟩

theorem values_stops (F : Fence) (n : Nat) (hF : F.fn 34) (hro : F.round = none) (hn : 1 ≤ n) (Bs n₀ : Nat) (v : Value) (l : List Ent) (hsm : l.length < 100000000000) (w : World) (hBs : Bs < w.heap.size) (hn₀ : n₀ ≤ w.heap.size)
    (hc : w.cell? ⟨Bs, 0, none⟩ = some v) (hI : Shows n₀ w v l) :
    SeqStopsK F n Try.prog 34 #[.pointer (some ⟨Bs, 0, none⟩)] (fun x : Ent => #[Value.agg #[.int .i64 x.tm, .int .i64 x.ord, .int .i64 x.wh]]) (Below n₀) (fun ys => ys = l) (fun pre => pre <+: l) l.length w := fun lp J Jx W hW hJ _ hY h0 => by
  have hc' := (hW.cell (p := ⟨Bs, 0, none⟩) hBs).trans hc
  rcases hI.below (hW.mono hn₀) with ⟨A, c, rfl, rfl⟩ | ⟨g, cap, rfl, hb, hcs⟩
  · exact (values1_nil_in F n hF hro lp Bs J W A c hc' h0).mono fun e W' ⟨he, hj⟩ => ⟨he, .inl ⟨_, rfl, hj⟩⟩
  · exact values1_in F n hF hro hn lp Bs n₀ g cap l [] hsm hb J Jx W (Nat.le_trans hn₀ hW.size) hJ hY hc' hcs h0

theorem blk_own {β : Type} (B : Nat) (t : TypeId) (cs : List Value) : Own (fun (_ : β) W => Blk W B t cs) := fun s X Y row hs hg hrow =>
  hs.grown hg (fun e => by obtain ⟨o, ho, hc⟩ := hrow B e.symm; rw [show X.heap[B]? = _ from hs] at ho; cases ho; cases hc)

def AppPost (w : World) (l : List Ent) (e : Ending) (w' : World) : Prop :=
  ∃ v, e = .returned v ∧ w'.ownsRow w.heap.size 49 3 v l.length (cellsOf l) ∧ Below w.heap.size w w'
set_option maxRecDepth 100000 in
set_option maxHeartbeats 4000000 in
theorem appendSeq_any (Bs : Nat) (v : Value) (l : List Ent) (hsm : l.length < 100000000000) (w : World) (hBs : Bs < w.heap.size)
    (hc : w.cell? ⟨Bs, 0, none⟩ = some v) (hI : Shows w.heap.size w v l) :
    Calls Try.prog 35 #[.slice none 0 0, .func (.func 34) #[] #[.pointer (some ⟨Bs, 0, none⟩)]] w (AppPost w l) := by
  refine (callsIn_wide (n := 3)).1 ?_
  have hro : Fence.wide.round = none := rfl
  have hFn : Fence.wide.fn 34 := trivial
  obtain ⟨i0, hi, hz0, hz1, hz2⟩ := info_parts info_entry
  refine callsIn_of_wp_marks Try.func35 rfl trivial ?_ hro
  simp only [Try.ntmps35, List.size_toArray, List.length_cons, List.length_nil, Nat.reduceAdd, Nat.reduceSub, Array.replicate_succ, Array.replicate_zero, List.push_toArray, List.append_toArray, List.nil_append, List.cons_append]
  gi_wp2
  have bO := Boxed.new w 42 (.slice none 0 0)
  have hB0 : Below w.heap.size w (w.alloc (.cells #[.slice none 0 0] 42)) := (Below.refl _ w).alloc (Nat.le_refl _) _
  have hsz : (w.alloc (.cells #[.slice none 0 0] 42)).heap.size = w.heap.size + 1 := by simp
  obtain ⟨W0, hW0⟩ : ∃ W0, w.alloc (.cells #[.slice none 0 0] 42) = W0 := ⟨_, rfl⟩
  rw [hW0] at bO hB0 hsz ⊢
  clear hW0
  refine wpIn_rangeFunc_ownH hro (by decide) (gf := 34) (lb := #[.pointer (some ⟨Bs, 0, none⟩)]) rfl hFn (enters_of Try.func34 (by kernel_rfl) rfl)
    (values_stops Fence.wide (3 - 1) hFn hro (by decide) Bs w.heap.size v l hsm W0 (by omega) (by omega) ((hB0.cell hBs).trans hc) (hI.below hB0)) belowK_t (belowK_b (by omega)) (Below.refl _ _) (fun _ => rfl)
    (fun pre W => (∃ u, Boxed W w.heap.size 42 u ∧ W.ownsRow w.heap.size 49 3 u pre.length (cellsOf pre) ∧ True) ∧ Below w.heap.size w W)
    (fun _ _ _ => False)
    (OwnFrom.and (Own.from (holdsRow_own w.heap.size w.heap.size 42 49 3 (fun pre : List Ent => pre.length) cellsOf (fun _ _ => True)) _) (ownFrom_below (Nat.le_refl _) (by omega)))
    (fun _ _ _ _ _ hs _ _ => hs)
    ⟨⟨_, bO, World.ownsRow_nil _ _ _ _, trivial⟩, hB0⟩
    (fun x a' W => ∃ Bx, w.heap.size < Bx ∧ Blk W Bx 49 x.cells ∧ a' = { tmps := #[.slice none 0 0, .func (.func 34) #[] #[.pointer (some ⟨Bs, 0, none⟩)], .pointer (some ⟨w.heap.size, 0, none⟩), undef, .slice none 0 0, .pointer (some ⟨Bx, 0, none⟩), .func (.func 34) #[] #[.pointer (some ⟨Bs, 0, none⟩)], .agg #[.int .i64 x.tm, .int .i64 x.ord, .int .i64 x.wh], undef, undef, undef, undef, undef], defers := [] })
    (fun x a' _ X Y row hs hg hr => by obtain ⟨Bx, h1, h2, h3⟩ := hs; exact ⟨Bx, h1, blk_own Bx 49 x.cells () X Y row h2 hg (fun r e => (hr r e).2), h3⟩)
    ?assign ?body ?done ?stop
  case assign =>
    rintro lp pre x W K ⟨⟨u, bu, ru, _⟩, hB1⟩ hK
    gi_wp2
    exact hK _ _ ((KeepsOthers.alloc _ _).from _) ((Below.refl _ W).alloc hB1.size _) ⟨⟨u, bu.alloc _, ru.alloc _, trivial⟩, hB1.alloc hB1.size _⟩ ⟨W.heap.size, bu.lt, Blk.new W _ x.cells, rfl⟩
  case body =>
    rintro lp pre x a' W hlp hr ⟨⟨u, hv, hrow, _⟩, hB⟩ ⟨Bx, hBx, bX, rfl⟩ hlt
    have hc := hv.cell
    have x0 := bX.cell 0 _ rfl
    have x1 := bX.cell 1 _ rfl
    have x2 := bX.cell 2 _ rfl
    have hsz := hB.size
    clear hr
    gi_wp2_with (gi_at_builtin; refine wpListIn_append_own _ rfl _ _ 42 rfl w.heap.size 49 i0 (.agg #[.int .i64 0, .int .i64 0, .int .i64 0]) 3 24 Try.underlying42 hi hz0 hz1 hz2 rfl (by decide) _ _ _ rfl (hrow.alloc _) ⟨W.heap.size, 0, none⟩ 1 1 x.cells rfl rfl (World.news_of_block (blk_new W _)) (by simp [Ent.cells, Value.oneCell']) (by unfold maxLen; omega) (by omega) (by simp; omega) ?_; intro v' w1 hown' hgrow _; obtain ⟨g', cap', rfl⟩ := ownsRow_succ hown'; obtain ⟨hv1, hv2, hr2, hk2, hb2⟩ := hv.appended (by decide) hrow hB.size (Nat.le_refl _) hown' hgrow; have hc1 := hv1.cell; have hf1 := hv1.frozen)
    exact ⟨hk2.from _, hb2, ⟨_, hv2, by rw [cellsOf_append, List.length_append]; simpa [cellsOf] using hr2, trivial⟩, hB.trans hb2⟩
  case done =>
    rintro D ys W hD rfl ⟨⟨u, hv, hrow, _⟩, hB⟩ hK
    have hc := hv.cell
    gi_wp2
    refine ⟨by simp, .inl ⟨_, _, rfl, run_takeDeferred hK, ?_⟩⟩
    exact ⟨_, results_tmp rfl _ _ _, _, rfl, ownsRow_putObj hrow _ hK rfl, hB.trans (belowK_b (w := w) (Nat.le_refl _) W D _ _ (by omega) hK rfl rfl)⟩
  case stop =>
    rintro D c pre W _ _ h _
    exact h.elim
end Go.Proofs.Ytlccileccmiomaa
