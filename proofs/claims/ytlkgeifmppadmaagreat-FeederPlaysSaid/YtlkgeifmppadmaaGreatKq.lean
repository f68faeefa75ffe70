/- The law FeederPlays. Words for the rows: an argument that is a slice of ints, opened. Words for the rows of the feeder's laws: an argument that is a slice of asks, opened. The statement FeederPlays, out of its walk. Conditions: as each theorem states them. -/
import Derived.Test.YtlkgeifmppadmaaGreatKp
import Derived.Test.YtlkgeifmppadmaaGreatRows
import Derived.Test.YtlkgeifmppadmaaGreatKm
import Derived.WalkKit
import Derived.ProofKit
import Derived.OpenShut
import Derived.ShutString
import Derived.ChangeOld
import Derived.Below
import Derived.SizedLaws
import Derived.Lib.SmallJoins
import Derived.Test.YtlkgeifmppadmaaGreatKo
import Derived.Deep.Slices
import Derived.Deep.Fields
import Derived.ChangeSame
namespace Go.Proofs.YtlkgeifmppadmaaGreat
open Go.RowKit
set_option linter.unusedVariables false
set_option linter.unusedSimpArgs false

set_option maxRecDepth 100000 in
set_option maxHeartbeats 8000000 in
theorem plays_any (n quorum retry : Int) (A : Option Addr) (c : Nat) (l : List AskE) (w : World) (hx : ArgAskE w A l) :
  Calls Tryz.prog 5 #[.int .i64 n, .int .i64 quorum, .int .i64 retry, .slice A l.length c] w fun e w' => e = .returned (.bool true) ∧ Below w.heap.size w w' := by
 have HX := Lib.hid hx
 clear hx
 have HWI := Lib.hid (fun wz : World => within_any n 1 3 (by decide) (by decide) (by decide) wz)
 obtain ⟨kn, hkn, hk1, hk3⟩ : ∃ kn : Nat, withinZ n 1 3 = kn ∧ 1 ≤ kn ∧ kn ≤ 3 := by
  have := withinZ_ge n 1 3 (by decide)
  obtain ⟨k, hk⟩ := Int.eq_ofNat_of_zero_le (show 0 ≤ withinZ n 1 3 by omega)
  exact ⟨k, hk, by omega, by omega⟩
 rw [hkn] at HWI
 clear hkn
 have HWQ := Lib.hid (fun wz : World => within_any quorum 1 (kn : Int) (by decide) (by omega) (by omega) wz)
 have hq := withinZ_ge quorum 1 (kn : Int) (by omega)
 generalize withinZ quorum 1 (kn : Int) = q at *
 have HWR := Lib.hid (fun wz : World => within_any retry 1 100 (by decide) (by decide) (by decide) wz)
 have hr := withinZ_ge retry 1 100 (by decide)
 generalize withinZ retry 1 100 = re at *
 have HPL := Lib.hid (fplay_any kn q re hk1 hk3 hq.1 hq.2 hr.1 hr.2 A c l w HX.out)
 clear hq hr
 go_enter Tryz.func5, Tryz.ntmps5
 go_wp2_with fail
 refine (HWI.out _).mono ?_
 rintro e w' ⟨rfl, rfl⟩
 go_wp2_with fail
 refine (HWQ.out _).mono ?_
 rintro e w' ⟨rfl, rfl⟩
 go_wp2_with fail
 refine (HWR.out _).mono ?_
 rintro e w' ⟨rfl, rfl⟩
 go_wp2_with fail
 refine HPL.out.mono ?_
 rintro e w1 ⟨rfl, h⟩
 have H1 := Lib.hid h
 clear h
 go_wp2_with fail
 refine (known_any _).mono ?_
 rintro e w2 ⟨rfl, h⟩
 have H2 := Lib.hid (H1.out.trans (h.mono H1.out.size))
 clear h
 go_wp2
 go_ret
 exact ⟨rfl, H2.out⟩
end Go.Proofs.YtlkgeifmppadmaaGreat
namespace Go.Proofs.YtlkgeifmppadmaaGreat.RowWords
open Go.ChangeShapes Go.WideShapes Go.ChangeAt Go.RowKit Go.Joins Go.Deep
set_option linter.unusedVariables false
theorem own : ownKnob Tryz.prog.godebug = none := by kernel_rfl
theorem laidOut : laidOutB Tryz.prog = true := by kernel_rfl
section
variable {H : Type} {enc : TypeId × Value → H} {w : World} {base : Nat} {spare : Nat → Bool} {held : Bool}
end
end Go.Proofs.YtlkgeifmppadmaaGreat.RowWords
namespace Go.Proofs.YtlkgeifmppadmaaGreat.RowWords
open Go.ChangeShapes Go.WideShapes Go.ChangeAt Go.RowKit Go.Deep
set_option linter.unusedVariables false
section
variable {H : Type} {enc : TypeId × Value → H} {w : World} {base : Nat} {spare : Nat → Bool} {held : Bool}
theorem ask5_struct : ∃ f0 f1 f2 f3 f4 : Field, Tryz.prog.underlying 56 = some (.struct #[f0, f1, f2, f3, f4]) ∧ f0.type = 3 ∧ f1.type = 3 ∧ f2.type = 3 ∧ f3.type = 3 ∧ f4.type = 4 ∧ f0.offset = 0 ∧ f1.offset = 1 ∧ f2.offset = 2 ∧ f3.offset = 3 ∧ f4.offset = 4 := ⟨_, _, _, _, _, Tryz.underlying56, rfl, rfl, rfl, rfl, rfl, rfl, rfl, rfl, rfl, rfl⟩
theorem ask5_size : Tryz.prog.cellsOf 56 = 5 := by kernel_rfl
theorem int5_size : Tryz.prog.cellsOf 3 = 1 := by kernel_rfl
theorem bool5_size : Tryz.prog.cellsOf 4 = 1 := by kernel_rfl
theorem one_bool5 {fuel : Nat} {cs : List Value} {x : DataW H × List MemPlace} (h : DataW.trod enc Tryz.prog w base spare held fuel 4 cs = some x) : ∃ b : Bool, cs = [.bool b] := by
 obtain ⟨n, e, _⟩ := DataW.trod_bool Tryz.underlying4 h
 exact ⟨n, e⟩
theorem one_int5 {fuel : Nat} {cs : List Value} {x : DataW H × List MemPlace} (h : DataW.trod enc Tryz.prog w base spare held fuel 3 cs = some x) : ∃ n : Int, cs = [.int .i64 n] := by
 obtain ⟨n, e, _⟩ := DataW.trod_int Tryz.underlying3 h
 exact ⟨n, e⟩
set_option maxRecDepth 100000 in
theorem args_askE {A : Option Addr} {len cap : Nat} {d : DataW H} {p : List MemPlace} (h : DataW.Trod enc Tryz.prog w base spare held 57 (.slice A len cap) d p) : ∃ l : List AskE, l.length = len ∧ ArgAskE w A l := by
 obtain ⟨fuel, hf⟩ := h
 rcases open_slice Tryz.underlying57 hf with ⟨hcs, _⟩ | ⟨a, l, c, m, n, D, Pl, hcs, _, hl, hm, hmm, _, hi⟩
 ·simp [Value.cells] at hcs
  obtain ⟨rfl, rfl, rfl⟩ := hcs
  exact ⟨[], rfl, fun k hk => absurd hk (Nat.not_lt_zero _)⟩
 ·simp [Value.cells] at hcs
  obtain ⟨rfl, rfl, rfl⟩ := hcs
  have hle : len ≤ m := by rw [hmm]; split <;> omega
  have key : ∀ i, i < len → ∃ q : AskE, w.cell? (a.add (i * 5)) = some (.int .i64 q.kind) ∧ w.cell? (a.add (i * 5 + 1)) = some (.int .i64 q.who) ∧ w.cell? (a.add (i * 5 + 2)) = some (.int .i64 q.size) ∧ w.cell? (a.add (i * 5 + 3)) = some (.int .i64 q.now) ∧ w.cell? (a.add (i * 5 + 4)) = some (.bool q.bad) := by
   intro i hlt
   obtain ⟨cs', hc, ht'⟩ := hi i (by omega)
   obtain ⟨f0, f1, f2, f3, f4, hs, e0, e1, e2, e3, e4, o0, o1, o2, o3, o4⟩ := ask5_struct
   obtain ⟨ys, n', hn', hy, hlen, hyl, hfl⟩ := DataW.trod_struct hs ht'
   rw [ask5_size] at hc hlen
   obtain ⟨_, hcl, hat⟩ := World.cells?_some hc
   match cs', hlen with
   | [c0, c1, c2, c3, c4], _ =>
    have g0 := hfl 0 f0 rfl
    have g1 := hfl 1 f1 rfl
    have g2 := hfl 2 f2 rfl
    have g3 := hfl 3 f3 rfl
    have g4 := hfl 4 f4 rfl
    rw [e0, o0, int5_size] at g0
    rw [e1, o1, int5_size] at g1
    rw [e2, o2, int5_size] at g2
    rw [e3, o3, int5_size] at g3
    rw [e4, o4, bool5_size] at g4
    obtain ⟨y0, hy0⟩ : ∃ y, ys[0]? = some y := ⟨_, List.getElem?_eq_getElem (by rw [hyl]; simp)⟩
    obtain ⟨y1, hy1⟩ : ∃ y, ys[1]? = some y := ⟨_, List.getElem?_eq_getElem (by rw [hyl]; simp)⟩
    obtain ⟨y2, hy2⟩ : ∃ y, ys[2]? = some y := ⟨_, List.getElem?_eq_getElem (by rw [hyl]; simp)⟩
    obtain ⟨y3, hy3⟩ : ∃ y, ys[3]? = some y := ⟨_, List.getElem?_eq_getElem (by rw [hyl]; simp)⟩
    obtain ⟨y4, hy4⟩ : ∃ y, ys[4]? = some y := ⟨_, List.getElem?_eq_getElem (by rw [hyl]; simp)⟩
    rw [hy4] at g4
    rw [hy0] at g0
    rw [hy1] at g1
    rw [hy2] at g2
    rw [hy3] at g3
    obtain ⟨n0, k0⟩ := one_int5 g0
    obtain ⟨n1, k1⟩ := one_int5 g1
    obtain ⟨n2, k2⟩ := one_int5 g2
    obtain ⟨n3, k3⟩ := one_int5 g3
    obtain ⟨n4, k4⟩ := one_bool5 g4
    have k0' : c0 = .int .i64 n0 := by simpa using k0
    have k1' : c1 = .int .i64 n1 := by simpa using k1
    have k2' : c2 = .int .i64 n2 := by simpa using k2
    have k3' : c3 = .int .i64 n3 := by simpa using k3
    have k4' : c4 = .bool n4 := by simpa using k4
    subst k0' k1' k2' k3' k4'
    refine ⟨⟨n0, n1, n2, n3, n4⟩, ?_, ?_, ?_, ?_, ?_⟩
    ·have := hat 0 (by decide)
     rw [Go.Deep.add_add] at this
     simpa using this
    ·have := hat 1 (by decide)
     rw [Go.Deep.add_add] at this
     simpa using this
    ·have := hat 2 (by decide)
     rw [Go.Deep.add_add] at this
     simpa using this
    ·have := hat 3 (by decide)
     rw [Go.Deep.add_add] at this
     simpa using this
    ·have := hat 4 (by decide)
     rw [Go.Deep.add_add] at this
     simpa using this
  have hex : ∀ n, n ≤ len → ∃ l : List AskE, l.length = n ∧ ∀ k (h : k < l.length), w.cell? (a.add (k * 5)) = some (.int .i64 l[k].kind) ∧ w.cell? (a.add (k * 5 + 1)) = some (.int .i64 l[k].who) ∧ w.cell? (a.add (k * 5 + 2)) = some (.int .i64 l[k].size) ∧ w.cell? (a.add (k * 5 + 3)) = some (.int .i64 l[k].now) ∧ w.cell? (a.add (k * 5 + 4)) = some (.bool l[k].bad) := by
   intro n
   induction n with
   | zero => exact fun _ => ⟨[], rfl, fun k hk => absurd hk (Nat.not_lt_zero _)⟩
   | succ n ih =>
    intro hn
    obtain ⟨l, hl, hc⟩ := ih (by omega)
    obtain ⟨q, q0, q1, q2, q3, q4⟩ := key n (by omega)
    refine ⟨l ++ [q], by simp [hl], fun k hk => ?_⟩
    by_cases e : k < l.length
    ·rw [List.getElem_append_left e]; exact hc k e
    ·have : k = n := by simp at hk; omega
     subst this
     rw [List.getElem_append_right (by omega)]
     simp only [hl, Nat.sub_self, List.getElem_cons_zero]
     exact ⟨q0, q1, q2, q3, q4⟩
  obtain ⟨l, hl, hc⟩ := hex len (Nat.le_refl _)
  refine ⟨l, hl, fun k hk => ?_⟩
  obtain ⟨c0, c1, c2, c3, c4⟩ := hc k hk
  obtain ⟨b, off, spot⟩ := a
  have hspot : spot = none := by simpa [Addr.add] using World.cell?_spot (hc 0 (by omega)).1
  subst hspot
  rw [Go.WideShapes.add_plain] at c0 c1 c2 c3 c4
  exact ⟨b, off, rfl, World.block_lt_of_cell? w _ c0, c0, by rw [Nat.add_assoc]; exact c1, by rw [Nat.add_assoc]; exact c2, by rw [Nat.add_assoc]; exact c3, by rw [Nat.add_assoc]; exact c4⟩
end
end Go.Proofs.YtlkgeifmppadmaaGreat.RowWords
namespace Go.Proofs.YtlkgeifmppadmaaGreat.feederPlays
open Go.ChangeShapes Go.WideShapes Go.ChangeAt Go.RowKit Go.Joins Go.Deep
open Go.Proofs.YtlkgeifmppadmaaGreat.RowWords
set_option linter.unusedVariables false
set_option linter.unusedSimpArgs false


set_option maxRecDepth 100000 in
theorem lifted (os : Os) (started : os.Started) (H : Type) (enc : TypeId × Value → H) :
  ReturnsInHanded {} Tryz.checked os 5 .any (Rows.feederPlaysSpec.pre6 enc Tryz.prog Tryz.f5 Rows.feederPlaysRow.domain false) (Rows.feederPlaysSpec.post enc Tryz.prog Tryz.f5 false true false false) := by
 refine returnsInHanded_of_change_sized (C := Tryz.checked) own started (by kernel_rfl) Tryz.func5
  (ChangeSpec.witness6 (enc := enc) (C := Tryz.checked) false ⟨#[], #[.int .i64 0, .int .i64 0, .int .i64 0, .slice none 0 0], []⟩ 8 (by kernel_rfl) (by kernel_rfl) (by kernel_rfl) (by kernel_rfl)) ?_
 intro W base args ds gs before hval0 hW hcnd hsz0 _
 have hval : ∀ (j : Nat) t v, Tryz.f5.params[j]? = some t → args[j]? = some v → Value.okWide Tryz.prog W .any base t v := hval0
 have hW' := hW
 obtain ⟨p, q, hA0, hV, rfl, hfz, hnd⟩ := hW
 have hA : DataW.TrodAll enc Tryz.prog W 0 (fun _ => true) true Tryz.f5.params.toList args.toList ds p := hA0
 rw [Tryz.params5] at hA hval
 obtain ⟨v0, vs0, d0, ds0, p0, q0, hargs, rfl, rfl, h0, r0⟩ := trodAll_cons hA
 obtain ⟨v1, vs1, d1, ds1, p1, q1, rfl, rfl, rfl, h1, r1⟩ := trodAll_cons r0
 obtain ⟨v2, vs2, d2, ds2, p2, q2, rfl, rfl, rfl, h2, r2⟩ := trodAll_cons r1
 obtain ⟨v3, vs3, d3, ds3, p3, q3, rfl, rfl, rfl, h3, r3⟩ := trodAll_cons r2
 obtain ⟨rfl, rfl, rfl⟩ := trodAll_nil r3
 obtain rfl : args = #[v0, v1, v2, v3] := by cases args; simp_all
 obtain ⟨rfl, rfl⟩ := trodVars_none hV
 obtain ⟨a0, rfl, rfl, rfl, w0⟩ := open_int Tryz.underlying3 (hval 0 3 v0 rfl rfl) h0
 obtain ⟨a1, rfl, rfl, rfl, w1⟩ := open_int Tryz.underlying3 (hval 1 3 v1 rfl rfl) h1
 obtain ⟨a2, rfl, rfl, rfl, w2⟩ := open_int Tryz.underlying3 (hval 2 3 v2 rfl rfl) h2
 have k3 := h3
 have lt3 : ∀ x ∈ p3, x.block < W.heap.size := by obtain ⟨m, hm⟩ := k3; exact DataW.trod_lt m _ _ _ hm
 obtain ⟨A3, len3, cap3, rfl⟩ := okWide_slice Tryz.underlying57 (hval 3 57 v3 rfl rfl)
 obtain ⟨xs3, rfl, hz3⟩ : ∃ xs : List AskE, xs.length = len3 ∧ ArgAskE W A3 xs := args_askE h3
 clear hA0 hval0 hsz0
 refine (plays_any a0 a1 a2 A3 cap3 xs3 W hz3).mono fun e W' ⟨he, bel⟩ => ?_
 subst he
 exact ⟨_, rfl, _, _, _, [], _, [], hW', trodAll_mk1 (shut_bool Tryz.underlying4 _), (trodAll_cons_mk (shut_int Tryz.underlying3 w0) (trodAll_cons_mk (shut_int Tryz.underlying3 w1) (trodAll_cons_mk (shut_int Tryz.underlying3 w2) (trodAll_cons_mk (Below.trod laidOut (by kernel_rfl) (of_decide_eq_true (by kernel_rfl)) k3 bel lt3) trodAll_mk0)))), rfl, bel.frame _, fun h => by cases h⟩
theorem over : Rows.feederPlaysRow.holds Tryz.pinned (OpenSpec.ofChange Rows.feederPlaysSpec) :=
 OpenClaim.holds_of_wide 5 Tryz.f5 rfl rfl rfl rfl rfl rfl rfl ⟨rfl, rfl, rfl, rfl, rfl⟩ rfl rfl rfl rfl rfl (by kernel_rfl) Tryz.func5 (by kernel_rfl)
  (of_decide_eq_true (by kernel_rfl)) (by unfold Func.isWrapper; first | (rw [if_pos (by decide +kernel)]; kernel_rfl) | (rw [if_neg (by decide +kernel)]; exact ⟨rfl, rfl⟩))
  (fun os started H enc _ => lifted os started H enc)
theorem proved : Rows.FeederPlaysSaid := over
end Go.Proofs.YtlkgeifmppadmaaGreat.feederPlays
namespace Go.Proofs.YtlkgeifmppadmaaGreat
theorem feederPlays_holds : Rows.FeederPlaysSaid := feederPlays.proved
end Go.Proofs.YtlkgeifmppadmaaGreat
