/- The law FeederNumbers. Words for the rows: an argument that is a slice of ints, opened. The statement FeederNumbers, out of its walk. Conditions: as each theorem states them. -/
import Derived.Test.YtlkgeifmppadmaaGreatKp
import Derived.Deep.LoopGhost
import Derived.Test.YtlkgeifmppadmaaGreatRows
import Derived.Test.YtlkgeifmppadmaaGreatKm
import Derived.WalkKit
import Derived.ProofKit
import Derived.OpenShut
import Derived.ShutString
import Derived.ChangeOld
import Derived.Below
import Derived.SizedLaws
import Derived.Lib.SmallJoins
namespace Go.Proofs.YtlkgeifmppadmaaGreat
open Go.RowKit
set_option linter.unusedVariables false
set_option linter.unusedSimpArgs false

def asksV (l : List AskE) : List Value := l.flatMap (fun a => [.int .i64 a.kind, .int .i64 a.who, .int .i64 a.size, .int .i64 a.now, .bool a.bad])
theorem asksV_at : ∀ (l : List AskE) (k : Nat) (h : k < l.length), (asksV l)[k * 5]? = some (.int .i64 l[k].kind) ∧ (asksV l)[k * 5 + 1]? = some (.int .i64 l[k].who) ∧ (asksV l)[k * 5 + 2]? = some (.int .i64 l[k].size) ∧ (asksV l)[k * 5 + 3]? = some (.int .i64 l[k].now) ∧ (asksV l)[k * 5 + 4]? = some (.bool l[k].bad)
 | [], k, h => absurd h (Nat.not_lt_zero _)
 | a :: l, 0, h => ⟨rfl, rfl, rfl, rfl, rfl⟩
 | a :: l, k + 1, h => by
  have ih := asksV_at l k (by simpa using h)
  have e : ∀ j, (asksV (a :: l))[(k + 1) * 5 + j]? = (asksV l)[k * 5 + j]? := fun j => by
   show ([Value.int .i64 a.kind, .int .i64 a.who, .int .i64 a.size, .int .i64 a.now, .bool a.bad] ++ asksV l)[(k + 1) * 5 + j]? = _
   rw [List.getElem?_append_right (by simp; omega)]
   congr 1
   simp
   omega
  have e0 := e 0
  rw [Nat.add_zero, Nat.add_zero] at e0
  rw [e0, e 1, e 2, e 3, e 4]
  exact ih
theorem asks_blk {w : World} {g : Nat} {te : TypeId} {l : List AskE} (h : Blk w g te (asksV l)) : ArgAskE w (some ⟨g, 0, none⟩) l := fun k hk => by
 obtain ⟨a, b, c, d, e⟩ := asksV_at l k hk
 exact ⟨g, 0, rfl, h.lt, by rw [Nat.zero_add]; exact h.cell _ _ a, by rw [Nat.zero_add]; exact h.cell _ _ b, by rw [Nat.zero_add]; exact h.cell _ _ c, by rw [Nat.zero_add]; exact h.cell _ _ d, by rw [Nat.zero_add]; exact h.cell _ _ e⟩
def L26 : List AskE := [⟨2, 0, 0, 0, false⟩, ⟨3, 0, 0, 0, false⟩, ⟨4, 0, 1, 0, false⟩, ⟨1, 0, 5, 0, false⟩, ⟨2, 0, 0, 0, false⟩, ⟨2, 0, 0, 0, false⟩, ⟨2, 0, 0, 3, false⟩, ⟨2, 0, 0, 6, false⟩, ⟨2, 0, 0, 12, false⟩, ⟨2, 0, 0, 24, false⟩, ⟨2, 0, 0, 24, false⟩, ⟨4, 0, 3, 0, false⟩, ⟨4, 0, 3, 0, false⟩, ⟨2, 0, 0, 0, false⟩, ⟨3, 0, 0, 0, true⟩, ⟨3, 0, 0, 0, false⟩, ⟨3, 0, 0, 0, false⟩, ⟨4, 0, 1, 0, false⟩, ⟨4, 9, 1, 0, false⟩, ⟨1, 0, 5, 0, false⟩, ⟨1, 0, 6, 0, true⟩, ⟨1, 0, 7, 0, false⟩, ⟨2, 0, 0, 0, false⟩, ⟨3, 1, 0, 0, false⟩, ⟨3, 2, 0, 0, false⟩, ⟨2, 0, 0, 40, false⟩]
theorem small0 : SmallPol (polS 3 0) := by
 have h := pol_small 3 1 (by decide) (by decide) (by decide)
 exact ⟨h.1, h.2.1, h.2.2.1, by show -1000000000 ≤ (0 : Int); decide, by show (0 : Int) ≤ 1000000000; decide⟩
theorem polB0 : polB (polS 3 0) = false := by
 unfold polB
 have e : (polS 3 0).quorum = 0 := rfl
 rw [e]
 simp
set_option maxRecDepth 100000 in
set_option maxHeartbeats 8000000 in
theorem numbers_any (w : World) :
  Calls Tryz.prog 4 #[] w fun e w' => e = .returned (.bool true) ∧ Below w.heap.size w w' := by
 have HO := Lib.hid (fun wz : World => owners_any 3 (by decide) wz)
 change Hid (∀ wz : World, Calls Tryz.prog 7 #[.int .i64 3] wz fun e w' => ∃ v, e = .returned v ∧ OwnersS (fun g => wz.heap.size ≤ g ∧ g < w'.heap.size) w' v 4 ∧ Below wz.heap.size wz w') at HO
 have HPO := Lib.hid (fun (q : Int) (wz : World) (S : Nat → Prop) (v : Value) (z1 : OwnersS S wz v 4) (z2 : ∀ g, S g → g < wz.heap.size) => lpolicy_any S 3 q v (by decide) wz z1 z2)
 have HN0 := Lib.hid (fun (wz : World) (v : Value) (z : PolV wz v (polS 3 0)) => fnew_no v (polS 3 0) 5 small0 (.inl polB0) wz z)
 have hsm := pol_small 3 2 (by decide) (by decide) (by decide)
 have HN1 := Lib.hid (fun (wz : World) (v : Value) (z : PolV wz v (polS 3 2)) => fnew_no v (polS 3 2) 0 hsm (.inr (.inl (by decide))) wz z)
 have HN2 := Lib.hid (fun (wz : World) (v : Value) (z : PolV wz v (polS 3 2)) => fnew_no v (polS 3 2) 101 hsm (.inr (.inr (by decide))) wz z)
 have HN3 : Hid (∀ (wz : World) (v : Value), PolV wz v (polS 3 3) → Calls Tryz.prog 9 #[v, .int .i64 100] wz fun e w' => ∃ f, e = .returned (.tuple #[.pointer (some ⟨f, 0, none⟩), .int .i64 0]) ∧ Below wz.heap.size wz w') := Lib.hid (fun wz v z => by
  refine (fnew_yes v (polS 3 3) 100 (pol_small 3 3 (by decide) (by decide) (by decide)) (pol_right 3 3 (by decide) (by decide) (by decide) (by decide)) (by decide) (by decide) wz z).mono ?_
  rintro e w' ⟨f, Z, rfl, _, _, h⟩
  exact ⟨f, rfl, h⟩)
 have HPL := Lib.hid (fun (n : Nat) (q : Int) (h1 : 1 ≤ n) (h3 : n ≤ 3) (h4 : 1 ≤ q) (h5 : q ≤ (n : Int)) (g : Nat) (wz : World) (hb : Blk wz g 56 (asksV L26)) => fplay_any n q 3 h1 h3 h4 h5 (by decide) (by decide) (some ⟨g, 0, none⟩) 26 L26 wz (asks_blk hb))
 change Hid (∀ (n : Nat) (q : Int) (h1 : 1 ≤ n) (h3 : n ≤ 3) (h4 : 1 ≤ q) (h5 : q ≤ (n : Int)) (g : Nat) (wz : World) (hb : Blk wz g 56 (asksV L26)), Calls Tryz.prog 17 #[.int .i64 n, .int .i64 q, .int .i64 3, .slice (some ⟨g, 0, none⟩) 26 26] wz fun e w' => e = .returned (.bool true) ∧ Below wz.heap.size wz w') at HPL
 clear hsm
 generalize polS 3 = PO at *
 go_enter Tryz.func4, Tryz.ntmps4
 go_wp2_with fail
 refine (HO.out _).mono ?_
 rintro e w1 ⟨v1, rfl, h1, h2⟩
 obtain ⟨A1, c1, rfl⟩ := h1.form
 have H1 := Lib.hid (And.intro h1 h2)
 clear h1 h2
 go_wp2_with fail
 refine (HPO.out 0 _ _ _ H1.out.1 (fun g hg => hg.2)).mono ?_
 rintro e w2 ⟨v2, rfl, h1, h2⟩
 have hs2 := h2.size
 have H2 := Lib.hid (And.intro (H1.out.1.below h2) (H1.out.2.trans (h2.mono H1.out.2.size)))
 clear h2
 go_wp2_with fail
 refine (HN0.out _ _ h1).mono ?_
 rintro e w3 ⟨rfl, h2⟩
 have hs3 := h2.size
 have H3 := Lib.hid (And.intro (H2.out.1.below h2) (H2.out.2.trans (h2.mono H2.out.2.size)))
 clear h1 h2
 go_wp2_with fail
 refine (HPO.out 2 _ _ _ H3.out.1 (fun g hg => by have := hg.2; omega)).mono ?_
 rintro e w4 ⟨v4, rfl, h1, h2⟩
 have hs4 := h2.size
 have H4 := Lib.hid (And.intro (H3.out.1.below h2) (H3.out.2.trans (h2.mono H3.out.2.size)))
 clear h2
 go_wp2_with fail
 refine (HN1.out _ _ h1).mono ?_
 rintro e w5 ⟨rfl, h2⟩
 have hs5 := h2.size
 have H5 := Lib.hid (And.intro (H4.out.1.below h2) (H4.out.2.trans (h2.mono H4.out.2.size)))
 clear h1 h2
 go_wp2_with fail
 refine (HPO.out 2 _ _ _ H5.out.1 (fun g hg => by have := hg.2; omega)).mono ?_
 rintro e w6 ⟨v6, rfl, h1, h2⟩
 have hs6 := h2.size
 have H6 := Lib.hid (And.intro (H5.out.1.below h2) (H5.out.2.trans (h2.mono H5.out.2.size)))
 clear h2
 go_wp2_with fail
 refine (HN2.out _ _ h1).mono ?_
 rintro e w7 ⟨rfl, h2⟩
 have hs7 := h2.size
 have H7 := Lib.hid (And.intro (H6.out.1.below h2) (H6.out.2.trans (h2.mono H6.out.2.size)))
 clear h1 h2
 go_wp2_with fail
 refine (HPO.out 3 _ _ _ H7.out.1 (fun g hg => by have := hg.2; omega)).mono ?_
 rintro e w8 ⟨v8, rfl, h1, h2⟩
 have hs8 := h2.size
 have H8 := Lib.hid (And.intro (H7.out.1.below h2) (H7.out.2.trans (h2.mono H7.out.2.size)))
 clear h2
 go_wp2_with fail
 refine (HN3.out _ _ h1).mono ?_
 rintro e w9 ⟨f, rfl, h2⟩
 have H9 := Lib.hid (H8.out.2.trans (h2.mono H8.out.2.size))
 clear h1 h2 H1 H2 H3 H4 H5 H6 H7 H8 hs2 hs3 hs4 hs5 hs6 hs7 hs8 HN0 HN1 HN2 HN3 HPO HO
 go_wp2_with fail
 refine code_at (fun wB => Blk wB w9.heap.size 56 (asksV L26) ∧ Below w9.heap.size w9 wB) ?_ ?_
 ·exact ⟨Blk.new w9 _ (asksV L26), (Below.refl _ _).alloc (Nat.le_refl _) _⟩
 rintro wB ⟨k0, kb⟩
 have HB := Lib.hid (And.intro k0 (H9.out.trans (kb.mono H9.out.size)))
 have hlB := k0.lt
 have hlw := H9.out.size
 clear k0 kb
 generalize w9.heap.size = B at *
 go_loopg [11] 3 (fun gk vn wr => ∃ (n : Nat), vn = .int .i64 n ∧ 1 ≤ n ∧ n + gk = 4 ∧ Hid (Blk wr B 56 (asksV L26) ∧ Below w.heap.size w wr))
 case atStart => exact ⟨1, rfl, by decide, rfl, HB⟩
 case round =>
  clear HB hlB
  obtain ⟨G, rfl⟩ : ∃ G : Nat, G = gk := ⟨_, rfl⟩
  obtain ⟨n, rfl, hn1, hn4, HI⟩ := hrel
  by_cases hlt : n ≤ 3
  ·have ht : decide ((n : Int) ≤ 3) = true := by rw [decide_eq_true_eq]; omega
   go_wp2_with fail
   go_loopg [12] n (fun gk2 vq wr2 => ∃ (q : Nat), vq = .int .i64 q ∧ 1 ≤ q ∧ q + gk2 = n + 1 ∧ Hid (Blk wr2 B 56 (asksV L26) ∧ Below w.heap.size w wr2))
   case atStart => exact ⟨1, rfl, by decide, by omega, HI⟩
   case round =>
    clear HI
    obtain ⟨q, rfl, hq1, hqn, HI⟩ := hrel
    by_cases hlq : q ≤ n
    ·go_wp2_with fail
     refine (HPL.out n (q : Int) (by omega) (by omega) (by omega) (by omega) B _ HI.out.1).mono ?_
     rintro e w2 ⟨rfl, h⟩
     have HN := Lib.hid (And.intro (HI.out.1.below h) (HI.out.2.trans (h.mono HI.out.2.size)))
     clear h HI
     go_wp2
     go_roundg (gk - 1)
     case measure => omega
     case rel => exact ⟨q + 1, by go_num, by omega, by omega, HN⟩
    ·go_wp2
     go_roundg (G - 1)
     case measure => omega
     case rel => exact ⟨n + 1, by go_num, by omega, by omega, HI⟩
  ·go_wp2_with fail
   refine (known_any _).mono ?_
   rintro e w2 ⟨rfl, h⟩
   have HE := Lib.hid (HI.out.2.trans (h.mono HI.out.2.size))
   clear h
   go_wp2
   go_ret
   exact ⟨rfl, HE.out⟩
end Go.Proofs.YtlkgeifmppadmaaGreat
namespace Go.Proofs.YtlkgeifmppadmaaGreat.RowWords
open Go.ChangeShapes Go.WideShapes Go.ChangeAt Go.RowKit Go.Joins Go.Deep
set_option linter.unusedVariables false
theorem own : ownKnob Tryz.prog.godebug = none := by kernel_rfl
theorem laidOut : laidOutB Tryz.prog = true := by kernel_rfl
section
variable {H : Type} {enc : TypeId × Value → H} {w : World} {base : Nat} {spare : Nat → Bool} {held : Bool}
end
end Go.Proofs.YtlkgeifmppadmaaGreat.RowWords
namespace Go.Proofs.YtlkgeifmppadmaaGreat.feederNumbers
open Go.ChangeShapes Go.WideShapes Go.ChangeAt Go.RowKit Go.Joins Go.Deep
open Go.Proofs.YtlkgeifmppadmaaGreat.RowWords
set_option linter.unusedVariables false
set_option linter.unusedSimpArgs false


set_option maxRecDepth 100000 in
theorem lifted (os : Os) (started : os.Started) (H : Type) (enc : TypeId × Value → H) :
  ReturnsInHanded {} Tryz.checked os 4 .any (Rows.feederNumbersSpec.pre6 enc Tryz.prog Tryz.f4 Rows.feederNumbersRow.domain false) (Rows.feederNumbersSpec.post enc Tryz.prog Tryz.f4 false true false false) := by
 refine returnsInHanded_of_change_sized (C := Tryz.checked) own started (by kernel_rfl) Tryz.func4
  (ChangeSpec.witness6 (enc := enc) (C := Tryz.checked) false ⟨#[], #[], []⟩ 8 (by kernel_rfl) (by kernel_rfl) (by kernel_rfl) (by kernel_rfl)) ?_
 intro W base args ds gs before hval0 hW hcnd hsz0 _
 have hval : ∀ (j : Nat) t v, Tryz.f4.params[j]? = some t → args[j]? = some v → Value.okWide Tryz.prog W .any base t v := hval0
 have hW' := hW
 obtain ⟨p, q, hA0, hV, rfl, hfz, hnd⟩ := hW
 have hA : DataW.TrodAll enc Tryz.prog W 0 (fun _ => true) true Tryz.f4.params.toList args.toList ds p := hA0
 rw [Tryz.params4] at hA hval
 obtain ⟨hargs, rfl, rfl⟩ := trodAll_nil hA
 obtain rfl : args = #[] := by cases args; simp_all
 obtain ⟨rfl, rfl⟩ := trodVars_none hV
 clear hA0 hval0 hsz0
 refine (numbers_any  W ).mono fun e W' ⟨he, bel⟩ => ?_
 subst he
 exact ⟨_, rfl, _, _, _, [], _, [], hW', trodAll_mk1 (shut_bool Tryz.underlying4 _), trodAll_mk0, rfl, bel.frame _, fun h => by cases h⟩
theorem over : Rows.feederNumbersRow.holds Tryz.pinned (OpenSpec.ofChange Rows.feederNumbersSpec) :=
 OpenClaim.holds_of_wide 4 Tryz.f4 rfl rfl rfl rfl rfl rfl rfl ⟨rfl, rfl, rfl, rfl, rfl⟩ rfl rfl rfl rfl rfl (by kernel_rfl) Tryz.func4 (by kernel_rfl)
  (of_decide_eq_true (by kernel_rfl)) (by unfold Func.isWrapper; first | (rw [if_pos (by decide +kernel)]; kernel_rfl) | (rw [if_neg (by decide +kernel)]; exact ⟨rfl, rfl⟩))
  (fun os started H enc _ => lifted os started H enc)
theorem proved : Rows.FeederNumbersSaid := over
end Go.Proofs.YtlkgeifmppadmaaGreat.feederNumbers
namespace Go.Proofs.YtlkgeifmppadmaaGreat
theorem feederNumbers_holds : Rows.FeederNumbersSaid := feederNumbers.proved
end Go.Proofs.YtlkgeifmppadmaaGreat
