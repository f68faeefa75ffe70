/- The law's requests: two rows that show the same. Two feeders beside each other, as the laws meet them. Two checkpoints, two signatures that are the same: so the references answer. Two signatures that are the same: so the reference answers; the law's equal. The law FeederAsks. Words for the rows: an argument that is a slice of ints, opened. The statement FeederAsks, out of its walk. Conditions: as each theorem states them. -/
import Derived.Test.YtlkgeifmppadmaaKk
import Derived.Test.YtlkgeifmppadmaaKo
import Derived.Test.YtlkgeifmppadmaaKm
import Derived.Test.YtlkgeifmppadmaaKg
import Derived.Test.YtlkgeifmppadmaaRows
import Derived.Test.YtlkgeifmppadmaaKl
import Derived.WalkKit
import Derived.ProofKit
import Derived.OpenShut
import Derived.ShutString
import Derived.ChangeOld
import Derived.Below
import Derived.SizedLaws
import Derived.Lib.SmallJoins
namespace Go.Proofs.Ytlkgeifmppadmaa
open Go.RowKit
set_option linter.unusedVariables false
set_option linter.unusedSimpArgs false

set_option maxRecDepth 100000 in
set_option maxHeartbeats 4000000 in
theorem requests_same (va vb : Value) (l : List (Int × Int)) (hl : l.length ≤ 1000000) (w : World) (ha : Sho w va l.length 2 (reqCells l)) (hb : Sho w vb l.length 2 (reqCells l)) :
    Calls Try.prog 19 #[va, vb] w fun e w' => e = .returned (.bool true) ∧ Below w.heap.size w w' := by
  obtain ⟨A, ca, rfl⟩ := ha.form
  obtain ⟨B, cb, rfl⟩ := hb.form
  have HX := Lib.hid (And.intro ha hb)
  clear ha hb
  go_enter Try.func19, Try.ntmps19
  go_wp2
  go_loopw [5] (fun v wr => ∃ i : Nat, v = .int .i64 i ∧ i ≤ l.length ∧ Hid (Below w.heap.size w wr)) (fun v _ => l.length - (intOf v).toNat)
  case atStart => exact ⟨0, rfl, Nat.zero_le _, Lib.hid (Below.refl _ _)⟩
  case round =>
    obtain ⟨i, rfl, hi, HI⟩ := hrel
    by_cases hlt : i < l.length
    · obtain ⟨ga, oa, rfl, _, hga, hca, _, h5⟩ := HX.out.1.place (by omega)
      obtain ⟨gb, ob, rfl, _, hgb, hcb, _, h6⟩ := HX.out.2.place (by omega)
      obtain ⟨ea, eb⟩ := reqCells_at l i hlt
      have a0 := (HI.out.cell (p := ⟨ga, oa + i * 2, none⟩) hga).trans (h5 _ _ ea)
      have a1 := (HI.out.cell (p := ⟨ga, oa + (i * 2 + 1), none⟩) hga).trans (h5 _ _ eb)
      have b0 := (HI.out.cell (p := ⟨gb, ob + i * 2, none⟩) hgb).trans (h6 _ _ ea)
      have b1 := (HI.out.cell (p := ⟨gb, ob + (i * 2 + 1), none⟩) hgb).trans (h6 _ _ eb)
      rw [← Nat.add_assoc] at a1 b1
      clear h5 h6 ea eb
      generalize l[i].1 = x at *
      generalize l[i].2 = y at *
      go_wp2
      refine wp_region_held_drew (S := fun w' => w'.cell? ⟨ga, oa + i * 2, none⟩ = some (.int .i64 x) ∧ w'.cell? ⟨ga, oa + i * 2 + 1, none⟩ = some (.int .i64 y) ∧ w'.cell? ⟨gb, ob + i * 2, none⟩ = some (.int .i64 x) ∧ w'.cell? ⟨gb, ob + i * 2 + 1, none⟩ = some (.int .i64 y)) (by kernel_rfl) ?_ (fun hHeld => ?_)
      · exact ⟨a0, a1, b0, b1⟩
      refine take_yes 0 17 rfl rfl (by kernel_rfl) (by kernel_rfl) (by kernel_rfl) (fun _ _ _ h => h) (by assumption) (by rfl) (v := ?_) ?_ ?_
      rotate_left 1
      · (intro w hSw; (try dsimp only at hSw); go_simp; try with_reducible rfl)
      simp only [List.setIfInBounds_toArray, List.set_cons_zero, List.set_cons_succ]
      refine take_yes 1 18 rfl rfl (by kernel_rfl) (by kernel_rfl) (by kernel_rfl) (fun _ _ _ h => h) (by assumption) (by rfl) (v := ?_) ?_ ?_
      rotate_left 1
      · (intro w hSw; (try dsimp only at hSw); go_simp; try with_reducible rfl)
      simp only [List.setIfInBounds_toArray, List.set_cons_zero, List.set_cons_succ]
      refine take_yes 2 19 rfl rfl (by kernel_rfl) (by kernel_rfl) (by kernel_rfl) (fun _ _ _ h => h) (by assumption) (by rfl) (v := ?_) ?_ ?_
      rotate_left 1
      · (intro w hSw; (try dsimp only at hSw); go_simp; try with_reducible rfl)
      simp only [List.setIfInBounds_toArray, List.set_cons_zero, List.set_cons_succ]
      refine take_yes 3 20 rfl rfl (by kernel_rfl) (by kernel_rfl) (by kernel_rfl) (fun _ _ _ h => h) (by assumption) (by rfl) (v := ?_) ?_ ?_
      rotate_left 1
      · (intro w hSw; (try dsimp only at hSw); go_simp; try with_reducible rfl)
      simp only [List.setIfInBounds_toArray, List.set_cons_zero, List.set_cons_succ]
      refine take_yes 4 21 rfl rfl (by kernel_rfl) (by kernel_rfl) (by kernel_rfl) (fun _ _ _ h => h) (by assumption) (by rfl) (v := ?_) ?_ ?_
      rotate_left 1
      · (intro w hSw; (try dsimp only at hSw); go_simp; try with_reducible rfl)
      simp only [List.setIfInBounds_toArray, List.set_cons_zero, List.set_cons_succ]
      refine take_yes 5 22 rfl rfl (by kernel_rfl) (by kernel_rfl) (by kernel_rfl) (fun _ _ _ h => h) (by assumption) (by rfl) (v := ?_) ?_ ?_
      rotate_left 1
      · (intro w hSw; (try dsimp only at hSw); go_simp; try with_reducible rfl)
      simp only [List.setIfInBounds_toArray, List.set_cons_zero, List.set_cons_succ]
      refine take_yes 6 23 rfl rfl (by kernel_rfl) (by kernel_rfl) (by kernel_rfl) (fun _ _ _ h => h) (by assumption) (by rfl) (v := ?_) ?_ ?_
      rotate_left 1
      · (intro w hSw; (try dsimp only at hSw); go_simp; try with_reducible rfl)
      simp only [List.setIfInBounds_toArray, List.set_cons_zero, List.set_cons_succ]
      refine take_yes 7 24 rfl rfl (by kernel_rfl) (by kernel_rfl) (by kernel_rfl) (fun _ _ _ h => h) (by assumption) (by rfl) (v := ?_) ?_ ?_
      rotate_left 1
      · (intro w hSw; (try dsimp only at hSw); go_simp; try with_reducible rfl)
      simp only [List.setIfInBounds_toArray, List.set_cons_zero, List.set_cons_succ]
      refine take_yes 8 25 rfl rfl (by kernel_rfl) (by kernel_rfl) (by kernel_rfl) (fun _ _ _ h => h) (by assumption) (by rfl) (v := ?_) ?_ ?_
      rotate_left 1
      · (intro w hSw; (try dsimp only at hSw); go_simp; try with_reducible rfl)
      simp only [List.setIfInBounds_toArray, List.set_cons_zero, List.set_cons_succ]
      refine wpAnyH_done (by kernel_rfl) ?_ _
      have hb2 := HI.out.drew
      generalize wr.drew = w2 at *
      have H2 := Lib.hid hb2
      clear hb2 hHeld a0 a1 b0 b1
      go_wp2
      go_roundw
      case rel => exact ⟨i + 1, by go_num, by omega, H2⟩
      case measure => simp [intOf]; omega
    · obtain rfl : i = l.length := by omega
      go_wp2
      go_ret
      exact ⟨rfl, HI.out⟩
end Go.Proofs.Ytlkgeifmppadmaa
namespace Go.Proofs.Ytlkgeifmppadmaa
open Go.RowKit
set_option linter.unusedVariables false
set_option linter.unusedSimpArgs false

theorem FdAt.wide {Z Z' : Nat → Prop} {w : World} {f : Nat} {d : FdD} (h : FdAt Z w f d) (hZ : ∀ g, Z g → Z' g) : FdAt Z' w f d := by
  obtain ⟨r, us, es, h⟩ := h
  exact ⟨r, us, es, h.wide hZ⟩
/-- What a step leaves of a feeder in blocks of Z. -/
def OnZ (Z : Nat → Prop) (w w' : World) (f : Nat) (d : FdD) : Prop := FdAt (Wide Z w w') w' f d ∧ Chg w w' Z
theorem onZ_quiet {Z : Nat → Prop} {w w' : World} {f : Nat} {d : FdD} (h : FdAt Z w f d) (hb : Below w.heap.size w w') : OnZ Z w w' f d :=
  ⟨(h.below hb).wide (fun g hg => .inl hg), (Chg.refl w Z).trans (Chg.of_below (S := fun _ => False) hb) (fun _ _ h => h.elim)⟩
theorem offer_z (Z : Nat → Prop) (f : Nat) (d : FdD) (p : PolD) (retry : Int) (n K : Nat) (v : Value) (s : SgD) (now : Int) (hj : FdJ d p retry n K) (hn : n ≤ 4) (hK : K ≤ 10000) (hp : p.log.length ≤ 1000000000) (hr : s.ck.root.length ≤ 100000000) (hs : SmallSig s.sig) (w : World) (hZ : ∀ g, Z g → g < w.heap.size) (h : FdAt Z w f d) (hv : SgV w v s) :
    Calls Try.prog 15 #[.pointer (some ⟨f, 0, none⟩), v, .int .i64 now] w fun e w' => e = .returned (.bool (offB d s)) ∧ OnZ Z w w' f (offN d s now) := by
  have h0 := h
  obtain ⟨r, us, es, h1⟩ := h
  have hlog : d.p.log.length ≤ 1000000000 := by rw [hj.pol]; exact hp
  cases hb : offB d s with
  | false =>
    refine (offer_no Z f d r us es v s now hlog hr hs w h1 hv hb).mono ?_
    rintro e w' ⟨e1, e2⟩
    refine ⟨e1, ?_⟩
    unfold offN
    rw [hb, if_neg (by decide)]
    exact onZ_quiet h0 e2
  | true =>
    have h2 := hb
    simp only [offB, Bool.and_eq_true, Bool.not_eq_true', Bool.and_eq_false_iff, decide_eq_false_iff_not] at h2
    obtain ⟨a1, a2⟩ := h2
    refine (offer_yes Z f d r us es v s now hlog hr hs w h1 hv a1 (fun hh => by
      rcases a2 with a2 | a2
      · rw [hh] at a2; exact absurd a2 (by decide)
      · omega) (by have := hj.ml; omega) (by have := hj.ord; omega) (by rw [hj.len]; omega) hZ).mono ?_
    rintro e w' ⟨e1, e2, e3⟩
    refine ⟨e1, ?_⟩
    unfold offN
    rw [hb, if_pos rfl]
    exact ⟨e2, e3⟩
theorem step_z (Z : Nat → Prop) (f : Nat) (d : FdD) (p : PolD) (retry : Int) (n K : Nat) (now : Int) (hj : FdJ d p retry n K) (hn : n ≤ 4) (hK : K ≤ 10000) (hre : 1 ≤ retry ∧ retry ≤ 1000) (hnow : 0 ≤ now ∧ now ≤ 1000000000000) (w : World) (hZ : ∀ g, Z g → g < w.heap.size) (h : FdAt Z w f d) :
    Calls Try.prog 16 #[.pointer (some ⟨f, 0, none⟩), .int .i64 now] w fun e w' => ∃ A c, e = .returned (.slice A (reqL d now).length c) ∧ w'.ownsRow w.heap.size 62 2 (.slice A (reqL d now).length c) (reqL d now).length (reqCells (reqL d now)) ∧ OnZ Z w w' f (stepD d now) := by
  refine (step_any Z f d now hnow (by rw [hj.re]; exact hre) (by have := hj.ml; omega) (by have := hj.ord; omega) (fun x hx => by rw [hj.len]; exact hj.wh x hx) (fun k => by have := hj.tr k; exact ⟨this.1, by have := this.2; omega⟩) (by rw [hj.len]; omega) w hZ h).mono ?_
  rintro e w' ⟨v, rfl, e1, e2, e3⟩
  obtain ⟨A, c, rfl⟩ := (Sho.own e1).form
  exact ⟨A, c, rfl, e1, e2, e3⟩
theorem reply_z (Z : Nat → Prop) (f : Nat) (d : FdD) (p : PolD) (retry : Int) (n K : Nat) (v : Value) (g : CgD) (wit size now : Int) (hj : FdJ d p retry n K) (hn : n ≤ 4) (hK : K ≤ 10000) (hp : SmallPol p) (hs : SmallSig g.sig) (hno : rightB g.sig = false) (w : World) (hZ : ∀ g, Z g → g < w.heap.size) (h : FdAt Z w f d) (hv : CgV w v g) :
    Calls Try.prog 18 #[.pointer (some ⟨f, 0, none⟩), .int .i64 wit, v, .int .i64 size, .int .i64 now] w fun e w' => e = .returned (.bool (repB d wit size)) ∧ OnZ Z w w' f (repN d wit size now) := by
  obtain ⟨r, us, es, h1⟩ := h
  refine (reply_nv Z f d r us es v g wit size now (by rw [hj.pol]; exact hp) hj.sm.2 hs w h1 hv (fun _ _ _ _ _ => ?_) (by have := hj.ml; omega) (by have := hj.ord; omega) (by rw [hj.len]; omega) hZ).mono (fun e w' h => h)
  simp [cgVerB, verifyB, hno]
theorem FdJ.repN {d : FdD} {p : PolD} {retry : Int} {n B : Nat} (h : FdJ d p retry n B) (wit size now : Int) : FdJ (repN d wit size now) p retry n (B + 1) := by
  unfold Go.Proofs.Ytlkgeifmppadmaa.repN
  by_cases hb : repB d wit size = true
  · rw [if_pos hb]
    have hb2 := hb
    simp only [repB, Bool.and_eq_true, decide_eq_true_eq] at hb2
    have hk : wit.toNat < n := by rw [← h.len]; omega
    refine ⟨h.pol, h.re, by show (d.l.set _ _).length = n; rw [List.length_set]; exact h.len, ?_, ?_, ?_, ?_, h.sm⟩
    · intro x hx
      rcases mem_insE.1 hx with rfl | hx
      · exact ⟨by show (0 : Int) ≤ (wit.toNat : Int); omega, by show (wit.toNat : Int) < (n : Int); omega⟩
      · exact h.wh x (mem_keepW.1 hx).1
    · show (insE _ (keepW _ d.m)).length ≤ _
      rw [insE_length]
      have := keepW_le (wit.toNat : Int) d.m
      have := h.ml
      omega
    · show d.ord + 1 ≤ _
      have := h.ord
      omega
    · intro j
      have h1 := h.tr j
      have h2 := h.tr wit.toNat
      show 0 ≤ (wAt (d.l.set wit.toNat _) j).tries ∧ (wAt (d.l.set wit.toNat _) j).tries ≤ _
      rw [wAt_set]
      split
      · exact ⟨h2.1, by have := h2.2; show (wAt d.l wit.toNat).tries ≤ _; omega⟩
      · exact ⟨h1.1, by have := h1.2; omega⟩
  · rw [if_neg hb]
    exact h.up (by omega)
/-- Two feeders apart, and the owners below them. -/
structure TwS (Za Zb S : Nat → Prop) (B : Nat) (w wr : World) (v : Value) (n fa fb : Nat) (da db : FdD) : Prop where
  own : OwnersS S wr v n
  low : ∀ g, S g → g < B
  size : B ≤ wr.heap.size
  base : w.heap.size ≤ B
  below : Below w.heap.size w wr
  a : FdAt Za wr fa da
  b : FdAt Zb wr fb db
  za : ∀ g, Za g → B ≤ g ∧ g < wr.heap.size
  zb : ∀ g, Zb g → B ≤ g ∧ g < wr.heap.size
  ap : ∀ g, Za g → ¬ Zb g
theorem TwS.swap {Za Zb S : Nat → Prop} {B : Nat} {w wr : World} {v : Value} {n fa fb : Nat} {da db : FdD} (h : TwS Za Zb S B w wr v n fa fb da db) : TwS Zb Za S B w wr v n fb fa db da :=
  ⟨h.own, h.low, h.size, h.base, h.below, h.b, h.a, h.zb, h.za, fun g hg e => h.ap g e hg⟩
theorem TwS.onA {Za Zb S : Nat → Prop} {B : Nat} {w wr w1 : World} {v : Value} {n fa fb : Nat} {da db d1 : FdD} (h : TwS Za Zb S B w wr v n fa fb da db) (hz : OnZ Za wr w1 fa d1) : TwS (Wide Za wr w1) Zb S B w w1 v n fa fb d1 db := by
  obtain ⟨h1, h2⟩ := hz
  have hs := h2.size
  exact ⟨h.own.chg h2 (fun g hg e => by have := h.low g hg; have := (h.za g e).1; omega), h.low, Nat.le_trans h.size hs, h.base, h.below.trans (h2.below h.below.size (fun k hk => Nat.le_trans h.base (h.za k hk).1)), h1, h.b.chg h2 (fun g hg e => h.ap g e hg),
    fun g hg => by
      rcases hg with hg | hg
      · have := h.za g hg; exact ⟨this.1, by omega⟩
      · exact ⟨Nat.le_trans h.size hg.1, hg.2⟩,
    fun g hg => by have := h.zb g hg; exact ⟨this.1, by omega⟩,
    fun g hg e => by
      rcases hg with hg | hg
      · exact h.ap g hg e
      · have := (h.zb g e).2; have h9 : wr.heap.size ≤ g := hg.1; omega⟩
theorem TwS.onB {Za Zb S : Nat → Prop} {B : Nat} {w wr w1 : World} {v : Value} {n fa fb : Nat} {da db d1 : FdD} (h : TwS Za Zb S B w wr v n fa fb da db) (hz : OnZ Zb wr w1 fb d1) : TwS Za (Wide Zb wr w1) S B w w1 v n fa fb da d1 := (h.swap.onA hz).swap
theorem TwS.quiet {Za Zb S : Nat → Prop} {B : Nat} {w wr w1 : World} {v : Value} {n fa fb : Nat} {da db : FdD} (h : TwS Za Zb S B w wr v n fa fb da db) (hb : Below wr.heap.size wr w1) : TwS Za Zb S B w w1 v n fa fb da db := by
  have hs := hb.size
  exact ⟨h.own.below hb, h.low, Nat.le_trans h.size hs, h.base, h.below.trans (hb.mono h.below.size), h.a.below hb, h.b.below hb, fun g hg => by have := h.za g hg; exact ⟨this.1, by omega⟩, fun g hg => by have := h.zb g hg; exact ⟨this.1, by omega⟩, h.ap⟩
theorem TwS.in {Za Zb S : Nat → Prop} {B : Nat} {w wr : World} {v : Value} {n fa fb : Nat} {da db : FdD} (h : TwS Za Zb S B w wr v n fa fb da db) : ∀ g, S g → g < wr.heap.size := fun g hg => Nat.lt_of_lt_of_le (h.low g hg) h.size
/-- The cosignature that says nothing. -/
def zCg : CgD := ⟨0, ⟨0, [], []⟩⟩
theorem zCg_wrong : rightB zCg.sig = false := rfl
theorem zCg_small : SmallSig zCg.sig := ⟨Nat.zero_le _, Nat.zero_le _, fun i h => absurd h (Nat.not_lt_zero _), fun i h => absurd h (Nat.not_lt_zero _)⟩
theorem zCg_v (w : World) : CgV w (.agg #[.int .i64 0, .int .i64 0, .slice none 0 0, .slice none 0 0]) zCg := ⟨_, _, rfl, ⟨[], Sho.nil w 1, fun i h => absurd h (Nat.not_lt_zero _)⟩, ⟨[], Sho.nil w 1, fun i h => absurd h (Nat.not_lt_zero _)⟩⟩
/-- A witness that there is not: refused. -/
theorem rep_far (d : FdD) (wit size now : Int) (h : wit < 0 ∨ (d.l.length : Int) ≤ wit) : repB d wit size = false ∧ repN d wit size now = d := by
  have hf : repB d wit size = false := by
    unfold repB
    rcases h with h | h
    · rw [show decide (0 ≤ wit) = false by simp; omega]; simp
    · rw [show decide (wit < (d.l.length : Int)) = false by simp; omega]; simp
  refine ⟨hf, ?_⟩
  unfold repN
  rw [hf, if_neg (by decide)]
end Go.Proofs.Ytlkgeifmppadmaa
namespace Go.Proofs.Ytlkgeifmppadmaa
open Go.RowKit
set_option linter.unusedVariables false
set_option linter.unusedSimpArgs false

set_option maxRecDepth 100000 in
set_option maxHeartbeats 2000000 in
theorem rcksame_any (va vb : Value) (c : CkD) (w : World) (ha : CkV w va c) (hb : CkV w vb c) :
    Calls Try.prog 41 #[va, vb] w fun e w' => e = .returned (.bool true) ∧ Below w.heap.size w w' := by
  obtain ⟨p, rfl, h1⟩ := ha
  obtain ⟨q, rfl, h2⟩ := hb
  obtain ⟨A, ca, rfl⟩ := h1.form
  obtain ⟨B, cb, rfl⟩ := h2.form
  have hb1 := (Below.refl w.heap.size w).alloc (Nat.le_refl _) (.cells #[.int .i64 c.num, .slice A c.root.length ca] 36)
  have hb2 := hb1.alloc (by simp) (.cells #[.int .i64 c.num, .slice B c.root.length cb] 36)
  have c1 := run_string_bys _ _ _ (h1.below hb2)
  have c2 := run_string_bys _ _ _ (h2.below hb2)
  have HB := Lib.hid hb2
  clear h1 h2 hb1 hb2
  generalize c.root = R at *
  generalize c.num = n at *
  go_enter Try.func41, Try.ntmps41
  go_wp2
  go_ret
  exact ⟨rfl, HB.out⟩
end Go.Proofs.Ytlkgeifmppadmaa
namespace Go.Proofs.Ytlkgeifmppadmaa
open Go.RowKit
set_option linter.unusedVariables false
set_option linter.unusedSimpArgs false

set_option maxRecDepth 100000 in
set_option maxHeartbeats 4000000 in
theorem rsgsame_any (va vb : Value) (s : SigD) (hp : s.parts.length ≤ 1000000) (hq : s.path.length ≤ 1000000) (w : World) (ha : SigV w va s) (hb : SigV w vb s) :
    Calls Try.prog 42 #[va, vb] w fun e w' => e = .returned (.bool true) ∧ Below w.heap.size w w' := by
  obtain ⟨p1, q1, rfl, h1, h2⟩ := ha
  obtain ⟨p2, q2, rfl, h3, h4⟩ := hb
  obtain ⟨A, ca, rfl⟩ := h1.form
  obtain ⟨B, cb, rfl⟩ := h2.form
  obtain ⟨C, cc, rfl⟩ := h3.form
  obtain ⟨D, cd, rfl⟩ := h4.form
  obtain ⟨ix, Ps, Qs⟩ := s
  have hb1 := (Below.refl w.heap.size w).alloc (Nat.le_refl _) (.cells #[.int .i64 ix, .slice A Ps.length ca, .slice B Qs.length cb] 38)
  have hb2 := hb1.alloc (by simp) (.cells #[.int .i64 ix, .slice C Ps.length cc, .slice D Qs.length cd] 38)
  have k1 := (Blk.new w 38 [.int .i64 ix, .slice A Ps.length ca, .slice B Qs.length cb]).below ((Below.refl _ _).alloc (Nat.le_refl _) (.cells #[.int .i64 ix, .slice C Ps.length cc, .slice D Qs.length cd] 38))
  have k2 := Blk.new (w.alloc (.cells #[.int .i64 ix, .slice A Ps.length ca, .slice B Qs.length cb] 38)) 38 [.int .i64 ix, .slice C Ps.length cc, .slice D Qs.length cd]
  rw [show (w.alloc (.cells #[.int .i64 ix, .slice A Ps.length ca, .slice B Qs.length cb] 38)).heap.size = w.heap.size + 1 by simp] at k2
  have HW := Lib.hid (And.intro k1 (And.intro k2 hb2))
  have HX := Lib.hid (And.intro h1 (And.intro h2 (And.intro h3 h4)))
  clear h1 h2 h3 h4 hb1 hb2 k1 k2
  go_enter Try.func42, Try.ntmps42
  go_wp2
  go_loopw [5] (fun v wr => ∃ i : Nat, v = .int .i64 i ∧ i ≤ Ps.length ∧ Hid (Below w.heap.size w wr ∧ Blk wr w.heap.size 38 [.int .i64 ix, .slice A Ps.length ca, .slice B Qs.length cb] ∧ Blk wr (w.heap.size + 1) 38 [.int .i64 ix, .slice C Ps.length cc, .slice D Qs.length cd])) (fun v _ => Ps.length - (intOf v).toNat)
  case atStart => exact ⟨0, rfl, Nat.zero_le _, Lib.hid ⟨HW.out.2.2, HW.out.1, HW.out.2.1⟩⟩
  case round =>
    obtain ⟨i, rfl, hi, HI⟩ := hrel
    have a1 := HI.out.2.1.cell 1 _ rfl
    have a2 := HI.out.2.1.cell 2 _ rfl
    have b1 := HI.out.2.2.cell 1 _ rfl
    have b2 := HI.out.2.2.cell 2 _ rfl
    have l1 := HI.out.2.1.lt
    have l2 := HI.out.2.2.lt
    by_cases hlt : i < Ps.length
    · obtain ⟨ga, oa, ua, rfl, hga, -, hca, hcua, hua⟩ := (HX.out.1.below HI.out.1).get i hlt
      obtain ⟨gb, ob, ub', rfl, hgb, -, hcb, hcub, hub⟩ := (HX.out.2.2.1.below HI.out.1).get i hlt
      obtain ⟨UA, na, rfl⟩ := hua.form
      obtain ⟨UB, nb, rfl⟩ := hub.form
      have r1 := run_string_bys wr.drew _ _ (hua.below (Below.refl _ _).drew)
      have r2 := run_string_bys wr.drew _ _ (hub.below (Below.refl _ _).drew)
      clear hua hub
      generalize Ps.getD i [] = X at *
      go_wp2
      refine wp_region_held_drew (S := fun w' => w'.cell? ⟨w.heap.size, 1, none⟩ = some (.slice (some ⟨ga, oa, none⟩) Ps.length ca) ∧ w'.cell? ⟨w.heap.size + 1, 1, none⟩ = some (.slice (some ⟨gb, ob, none⟩) Ps.length cc) ∧ w'.cell? ⟨ga, oa + i, none⟩ = some (.slice UA X.length na) ∧ w'.cell? ⟨gb, ob + i, none⟩ = some (.slice UB X.length nb) ∧ (convert 30 9 (.slice UA X.length na)).run Try.prog w' = .ok (.string ⟨X.toArray⟩) w' ∧ (convert 30 9 (.slice UB X.length nb)).run Try.prog w' = .ok (.string ⟨X.toArray⟩) w') (by kernel_rfl) ?_ (fun hHeld => ?_)
      · exact ⟨a1, b1, hcua, hcub, r1, r2⟩
      refine take_yes 0 37 rfl rfl (by kernel_rfl) (by kernel_rfl) (by kernel_rfl) (fun _ _ _ h => h) (by assumption) (by rfl) (v := ?_) ?_ ?_
      rotate_left 1
      · (intro w hSw; (try dsimp only at hSw); go_simp; try with_reducible rfl)
      simp only [List.setIfInBounds_toArray, List.set_cons_zero, List.set_cons_succ]
      refine take_yes 1 38 rfl rfl (by kernel_rfl) (by kernel_rfl) (by kernel_rfl) (fun _ _ _ h => h) (by assumption) (by rfl) (v := ?_) ?_ ?_
      rotate_left 1
      · (intro w hSw; (try dsimp only at hSw); go_simp; try with_reducible rfl)
      simp only [List.setIfInBounds_toArray, List.set_cons_zero, List.set_cons_succ]
      refine take_yes 2 39 rfl rfl (by kernel_rfl) (by kernel_rfl) (by kernel_rfl) (fun _ _ _ h => h) (by assumption) (by rfl) (v := ?_) ?_ ?_
      rotate_left 1
      · (intro w hSw; (try dsimp only at hSw); go_simp; try with_reducible rfl)
      simp only [List.setIfInBounds_toArray, List.set_cons_zero, List.set_cons_succ]
      refine take_yes 3 40 rfl rfl (by kernel_rfl) (by kernel_rfl) (by kernel_rfl) (fun _ _ _ h => h) (by assumption) (by rfl) (v := ?_) ?_ ?_
      rotate_left 1
      · (intro w hSw; (try dsimp only at hSw); go_simp; try with_reducible rfl)
      simp only [List.setIfInBounds_toArray, List.set_cons_zero, List.set_cons_succ]
      refine take_yes 4 41 rfl rfl (by kernel_rfl) (by kernel_rfl) (by kernel_rfl) (fun _ _ _ h => h) (by assumption) (by rfl) (v := ?_) ?_ ?_
      rotate_left 1
      · (intro w hSw; (try dsimp only at hSw); go_simp; try with_reducible rfl)
      simp only [List.setIfInBounds_toArray, List.set_cons_zero, List.set_cons_succ]
      refine take_yes 5 42 rfl rfl (by kernel_rfl) (by kernel_rfl) (by kernel_rfl) (fun _ _ _ h => h) (by assumption) (by rfl) (v := ?_) ?_ ?_
      rotate_left 1
      · (intro w hSw; (try dsimp only at hSw); go_simp; try with_reducible rfl)
      simp only [List.setIfInBounds_toArray, List.set_cons_zero, List.set_cons_succ]
      refine take_yes 6 43 rfl rfl (by kernel_rfl) (by kernel_rfl) (by kernel_rfl) (fun _ _ _ h => h) (by assumption) (by rfl) (v := ?_) ?_ ?_
      rotate_left 1
      · (intro w hSw; (try dsimp only at hSw); go_simp; try with_reducible rfl)
      simp only [List.setIfInBounds_toArray, List.set_cons_zero, List.set_cons_succ]
      refine take_yes 7 44 rfl rfl (by kernel_rfl) (by kernel_rfl) (by kernel_rfl) (fun _ _ _ h => h) (by assumption) (by rfl) (v := ?_) ?_ ?_
      rotate_left 1
      · (intro w hSw; (try dsimp only at hSw); go_simp; try with_reducible rfl)
      simp only [List.setIfInBounds_toArray, List.set_cons_zero, List.set_cons_succ]
      refine take_yes 8 45 rfl rfl (by kernel_rfl) (by kernel_rfl) (by kernel_rfl) (fun _ _ _ h => h) (by assumption) (by rfl) (v := ?_) ?_ ?_
      rotate_left 1
      · (intro w hSw; (try dsimp only at hSw); go_simp; try with_reducible rfl)
      simp only [List.setIfInBounds_toArray, List.set_cons_zero, List.set_cons_succ]
      refine take_yes 9 46 rfl rfl (by kernel_rfl) (by kernel_rfl) (by kernel_rfl) (fun _ _ _ h => h) (by assumption) (by rfl) (v := ?_) ?_ ?_
      rotate_left 1
      · (intro w hSw; (try dsimp only at hSw); go_simp; try with_reducible rfl)
      simp only [List.setIfInBounds_toArray, List.set_cons_zero, List.set_cons_succ]
      refine take_yes 10 47 rfl rfl (by kernel_rfl) (by kernel_rfl) (by kernel_rfl) (fun _ _ _ h => h) (by assumption) (by rfl) (v := ?_) ?_ ?_
      rotate_left 1
      · (intro w hSw; (try dsimp only at hSw); go_simp; try with_reducible rfl)
      simp only [List.setIfInBounds_toArray, List.set_cons_zero, List.set_cons_succ]
      refine take_yes 11 48 rfl rfl (by kernel_rfl) (by kernel_rfl) (by kernel_rfl) (fun _ _ _ h => h) (by assumption) (by rfl) (v := ?_) ?_ ?_
      rotate_left 1
      · (intro w hSw; (try dsimp only at hSw); go_simp; try with_reducible rfl)
      simp only [List.setIfInBounds_toArray, List.set_cons_zero, List.set_cons_succ]
      refine take_yes 12 49 rfl rfl (by kernel_rfl) (by kernel_rfl) (by kernel_rfl) (fun _ _ _ h => h) (by assumption) (by rfl) (v := ?_) ?_ ?_
      rotate_left 1
      · (intro w hSw; (try dsimp only at hSw); go_simp; try with_reducible rfl)
      simp only [List.setIfInBounds_toArray, List.set_cons_zero, List.set_cons_succ]
      refine wpAnyH_done (by kernel_rfl) ?_ _
      have hd := (Below.refl wr.heap.size wr).drew
      have HN := Lib.hid (And.intro (HI.out.1.trans (hd.mono HI.out.1.size)) (And.intro (HI.out.2.1.below hd) (HI.out.2.2.below hd)))
      clear hd hHeld r1 r2 hcua hcub
      generalize wr.drew = w2 at *
      go_wp2
      go_roundw
      case rel => exact ⟨i + 1, by go_num, by omega, HN⟩
      case measure => simp [intOf]; omega
    · obtain rfl : i = Ps.length := by omega
      go_wp2
      go_loopw [6] (fun v wr => ∃ i : Nat, v = .int .i64 i ∧ i ≤ Qs.length ∧ Hid (Below w.heap.size w wr ∧ Blk wr w.heap.size 38 [.int .i64 ix, .slice A Ps.length ca, .slice B Qs.length cb] ∧ Blk wr (w.heap.size + 1) 38 [.int .i64 ix, .slice C Ps.length cc, .slice D Qs.length cd])) (fun v _ => Qs.length - (intOf v).toNat)
      case atStart => exact ⟨0, rfl, Nat.zero_le _, HI⟩
      case round =>
        clear a1 a2 b1 b2 l1 l2 HI
        obtain ⟨i, rfl, hi, HI⟩ := hrel
        have a2 := HI.out.2.1.cell 2 _ rfl
        have b2 := HI.out.2.2.cell 2 _ rfl
        have l1 := HI.out.2.1.lt
        have l2 := HI.out.2.2.lt
        by_cases hlt : i < Qs.length
        · obtain ⟨ga, oa, ua, rfl, hga, -, hca, hcua, hua⟩ := (HX.out.2.1.below HI.out.1).get i hlt
          obtain ⟨gb, ob, ub', rfl, hgb, -, hcb, hcub, hub⟩ := (HX.out.2.2.2.below HI.out.1).get i hlt
          obtain ⟨UA, na, rfl⟩ := hua.form
          obtain ⟨UB, nb, rfl⟩ := hub.form
          have r1 := run_string_bys wr.drew _ _ (hua.below (Below.refl _ _).drew)
          have r2 := run_string_bys wr.drew _ _ (hub.below (Below.refl _ _).drew)
          clear hua hub
          generalize Qs.getD i [] = X at *
          go_wp2
          refine wp_region_held_drew (S := fun w' => w'.cell? ⟨w.heap.size, 2, none⟩ = some (.slice (some ⟨ga, oa, none⟩) Qs.length cb) ∧ w'.cell? ⟨w.heap.size + 1, 2, none⟩ = some (.slice (some ⟨gb, ob, none⟩) Qs.length cd) ∧ w'.cell? ⟨ga, oa + i, none⟩ = some (.slice UA X.length na) ∧ w'.cell? ⟨gb, ob + i, none⟩ = some (.slice UB X.length nb) ∧ (convert 30 9 (.slice UA X.length na)).run Try.prog w' = .ok (.string ⟨X.toArray⟩) w' ∧ (convert 30 9 (.slice UB X.length nb)).run Try.prog w' = .ok (.string ⟨X.toArray⟩) w') (by kernel_rfl) ?_ (fun hHeld => ?_)
          · exact ⟨a2, b2, hcua, hcub, r1, r2⟩
          refine take_yes 0 57 rfl rfl (by kernel_rfl) (by kernel_rfl) (by kernel_rfl) (fun _ _ _ h => h) (by assumption) (by rfl) (v := ?_) ?_ ?_
          rotate_left 1
          · (intro w hSw; (try dsimp only at hSw); go_simp; try with_reducible rfl)
          simp only [List.setIfInBounds_toArray, List.set_cons_zero, List.set_cons_succ]
          refine take_yes 1 58 rfl rfl (by kernel_rfl) (by kernel_rfl) (by kernel_rfl) (fun _ _ _ h => h) (by assumption) (by rfl) (v := ?_) ?_ ?_
          rotate_left 1
          · (intro w hSw; (try dsimp only at hSw); go_simp; try with_reducible rfl)
          simp only [List.setIfInBounds_toArray, List.set_cons_zero, List.set_cons_succ]
          refine take_yes 2 59 rfl rfl (by kernel_rfl) (by kernel_rfl) (by kernel_rfl) (fun _ _ _ h => h) (by assumption) (by rfl) (v := ?_) ?_ ?_
          rotate_left 1
          · (intro w hSw; (try dsimp only at hSw); go_simp; try with_reducible rfl)
          simp only [List.setIfInBounds_toArray, List.set_cons_zero, List.set_cons_succ]
          refine take_yes 3 60 rfl rfl (by kernel_rfl) (by kernel_rfl) (by kernel_rfl) (fun _ _ _ h => h) (by assumption) (by rfl) (v := ?_) ?_ ?_
          rotate_left 1
          · (intro w hSw; (try dsimp only at hSw); go_simp; try with_reducible rfl)
          simp only [List.setIfInBounds_toArray, List.set_cons_zero, List.set_cons_succ]
          refine take_yes 4 61 rfl rfl (by kernel_rfl) (by kernel_rfl) (by kernel_rfl) (fun _ _ _ h => h) (by assumption) (by rfl) (v := ?_) ?_ ?_
          rotate_left 1
          · (intro w hSw; (try dsimp only at hSw); go_simp; try with_reducible rfl)
          simp only [List.setIfInBounds_toArray, List.set_cons_zero, List.set_cons_succ]
          refine take_yes 5 62 rfl rfl (by kernel_rfl) (by kernel_rfl) (by kernel_rfl) (fun _ _ _ h => h) (by assumption) (by rfl) (v := ?_) ?_ ?_
          rotate_left 1
          · (intro w hSw; (try dsimp only at hSw); go_simp; try with_reducible rfl)
          simp only [List.setIfInBounds_toArray, List.set_cons_zero, List.set_cons_succ]
          refine take_yes 6 63 rfl rfl (by kernel_rfl) (by kernel_rfl) (by kernel_rfl) (fun _ _ _ h => h) (by assumption) (by rfl) (v := ?_) ?_ ?_
          rotate_left 1
          · (intro w hSw; (try dsimp only at hSw); go_simp; try with_reducible rfl)
          simp only [List.setIfInBounds_toArray, List.set_cons_zero, List.set_cons_succ]
          refine take_yes 7 64 rfl rfl (by kernel_rfl) (by kernel_rfl) (by kernel_rfl) (fun _ _ _ h => h) (by assumption) (by rfl) (v := ?_) ?_ ?_
          rotate_left 1
          · (intro w hSw; (try dsimp only at hSw); go_simp; try with_reducible rfl)
          simp only [List.setIfInBounds_toArray, List.set_cons_zero, List.set_cons_succ]
          refine take_yes 8 65 rfl rfl (by kernel_rfl) (by kernel_rfl) (by kernel_rfl) (fun _ _ _ h => h) (by assumption) (by rfl) (v := ?_) ?_ ?_
          rotate_left 1
          · (intro w hSw; (try dsimp only at hSw); go_simp; try with_reducible rfl)
          simp only [List.setIfInBounds_toArray, List.set_cons_zero, List.set_cons_succ]
          refine take_yes 9 66 rfl rfl (by kernel_rfl) (by kernel_rfl) (by kernel_rfl) (fun _ _ _ h => h) (by assumption) (by rfl) (v := ?_) ?_ ?_
          rotate_left 1
          · (intro w hSw; (try dsimp only at hSw); go_simp; try with_reducible rfl)
          simp only [List.setIfInBounds_toArray, List.set_cons_zero, List.set_cons_succ]
          refine take_yes 10 67 rfl rfl (by kernel_rfl) (by kernel_rfl) (by kernel_rfl) (fun _ _ _ h => h) (by assumption) (by rfl) (v := ?_) ?_ ?_
          rotate_left 1
          · (intro w hSw; (try dsimp only at hSw); go_simp; try with_reducible rfl)
          simp only [List.setIfInBounds_toArray, List.set_cons_zero, List.set_cons_succ]
          refine take_yes 11 68 rfl rfl (by kernel_rfl) (by kernel_rfl) (by kernel_rfl) (fun _ _ _ h => h) (by assumption) (by rfl) (v := ?_) ?_ ?_
          rotate_left 1
          · (intro w hSw; (try dsimp only at hSw); go_simp; try with_reducible rfl)
          simp only [List.setIfInBounds_toArray, List.set_cons_zero, List.set_cons_succ]
          refine take_yes 12 69 rfl rfl (by kernel_rfl) (by kernel_rfl) (by kernel_rfl) (fun _ _ _ h => h) (by assumption) (by rfl) (v := ?_) ?_ ?_
          rotate_left 1
          · (intro w hSw; (try dsimp only at hSw); go_simp; try with_reducible rfl)
          simp only [List.setIfInBounds_toArray, List.set_cons_zero, List.set_cons_succ]
          refine wpAnyH_done (by kernel_rfl) ?_ _
          have hd := (Below.refl wr.heap.size wr).drew
          have HN := Lib.hid (And.intro (HI.out.1.trans (hd.mono HI.out.1.size)) (And.intro (HI.out.2.1.below hd) (HI.out.2.2.below hd)))
          clear hd hHeld r1 r2 hcua hcub
          generalize wr.drew = w2 at *
          go_wp2
          go_roundw
          case rel => exact ⟨i + 1, by go_num, by omega, HN⟩
          case measure => simp [intOf]; omega
        · obtain rfl : i = Qs.length := by omega
          go_wp2
          go_ret
          exact ⟨rfl, HI.out.1⟩
set_option maxRecDepth 100000 in
set_option maxHeartbeats 4000000 in
theorem equal_same (va vb : Value) (s : SgD) (hs : SmallSig s.sig) (hp : s.sig.parts.length ≤ 1000000) (hq : s.sig.path.length ≤ 1000000) (w : World) (ha : SgV w va s) (hb : SgV w vb s) :
    Calls Try.prog 22 #[va, vb] w fun e w' => e = .returned (.bool true) ∧ Below w.heap.size w w' := by
  have HC := Lib.hid (fun (wz : World) (u v : Value) (z1 : CkV wz u s.ck) (z2 : CkV wz v s.ck) => rcksame_any u v s.ck wz z1 z2)
  have HS := Lib.hid (fun (wz : World) (u v : Value) (z1 : SigV wz u s.sig) (z2 : SigV wz v s.sig) => rsgsame_any u v s.sig hp hq wz z1 z2)
  obtain ⟨r1, p1, q1, rfl, h1, h2, h3⟩ := ha
  obtain ⟨r2, p2, q2, rfl, h4, h5, h6⟩ := hb
  obtain ⟨R1, c1, rfl⟩ := h1.form
  obtain ⟨A1, a1, rfl⟩ := h2.form
  obtain ⟨B1, b1, rfl⟩ := h3.form
  obtain ⟨R2, c2, rfl⟩ := h4.form
  obtain ⟨A2, a2, rfl⟩ := h5.form
  obtain ⟨B2, b2, rfl⟩ := h6.form
  have hb1 := (Below.refl w.heap.size w).alloc (Nat.le_refl _) (.cells #[.int .i64 s.ck.num, .slice R1 s.ck.root.length c1, .int .i64 s.sig.index, .slice A1 s.sig.parts.length a1, .slice B1 s.sig.path.length b1] 40)
  have hb2 := hb1.alloc (by simp) (.cells #[.int .i64 s.ck.num, .slice R2 s.ck.root.length c2, .int .i64 s.sig.index, .slice A2 s.sig.parts.length a2, .slice B2 s.sig.path.length b2] 40)
  have k1 := (Blk.new w 40 [.int .i64 s.ck.num, .slice R1 s.ck.root.length c1, .int .i64 s.sig.index, .slice A1 s.sig.parts.length a1, .slice B1 s.sig.path.length b1]).below ((Below.refl _ _).alloc (Nat.le_refl _) (.cells #[.int .i64 s.ck.num, .slice R2 s.ck.root.length c2, .int .i64 s.sig.index, .slice A2 s.sig.parts.length a2, .slice B2 s.sig.path.length b2] 40))
  have k2 := Blk.new (w.alloc (.cells #[.int .i64 s.ck.num, .slice R1 s.ck.root.length c1, .int .i64 s.sig.index, .slice A1 s.sig.parts.length a1, .slice B1 s.sig.path.length b1] 40)) 40 [.int .i64 s.ck.num, .slice R2 s.ck.root.length c2, .int .i64 s.sig.index, .slice A2 s.sig.parts.length a2, .slice B2 s.sig.path.length b2]
  rw [show (w.alloc (.cells #[.int .i64 s.ck.num, .slice R1 s.ck.root.length c1, .int .i64 s.sig.index, .slice A1 s.sig.parts.length a1, .slice B1 s.sig.path.length b1] 40)).heap.size = w.heap.size + 1 by simp] at k2
  have HW := Lib.hid (And.intro k1 (And.intro k2 hb2))
  have HX := Lib.hid (And.intro (And.intro h1 (And.intro h2 h3)) (And.intro h4 (And.intro h5 h6)))
  clear h1 h2 h3 h4 h5 h6 hb1 hb2 k1 k2
  go_enter Try.func22, Try.ntmps22
  go_wp2_with fail
  refine (HC.out _ _ _ ⟨_, rfl, HX.out.1.1.below HW.out.2.2⟩ ⟨_, rfl, HX.out.2.1.below HW.out.2.2⟩).mono ?_
  rintro e w1 ⟨rfl, h⟩
  have H1 := Lib.hid (And.intro (HW.out.1.below h) (And.intro (HW.out.2.1.below h) (HW.out.2.2.trans (h.mono (by simp; omega)))))
  clear h
  have c2 := H1.out.1.cell 2 _ rfl
  have c3 := H1.out.1.cell 3 _ rfl
  have c4 := H1.out.1.cell 4 _ rfl
  have d2 := H1.out.2.1.cell 2 _ rfl
  have d3 := H1.out.2.1.cell 3 _ rfl
  have d4 := H1.out.2.1.cell 4 _ rfl
  have l1 := H1.out.1.lt
  have l2 := H1.out.2.1.lt
  go_wp2_with fail
  refine (HS.out _ _ _ ⟨_, _, rfl, HX.out.1.2.1.below H1.out.2.2, HX.out.1.2.2.below H1.out.2.2⟩ ⟨_, _, rfl, HX.out.2.2.1.below H1.out.2.2, HX.out.2.2.2.below H1.out.2.2⟩).mono ?_
  rintro e w2 ⟨rfl, h⟩
  have H2 := Lib.hid (H1.out.2.2.trans (h.mono H1.out.2.2.size))
  clear h
  go_wp2
  go_ret
  exact ⟨rfl, H2.out⟩
end Go.Proofs.Ytlkgeifmppadmaa
namespace Go.Proofs.Ytlkgeifmppadmaa
open Go.RowKit
set_option linter.unusedVariables false
set_option linter.unusedSimpArgs false

/-- What the law holds: its owners, its feeder in blocks of Z, its checkpoint at b, with texts in Y. -/
structure AskS (Z S Y : Nat → Prop) (B b : Nat) (w wr : World) (v : Value) (n f : Nat) (cs : List Value) (s : SgD) (d : FdD) : Prop where
  own : OwnersS S wr v n
  low : ∀ g, S g → g < B
  size : B ≤ wr.heap.size
  base : w.heap.size ≤ B
  below : Below w.heap.size w wr
  fd : FdAt Z wr f d
  zz : ∀ g, Z g → B ≤ g ∧ g < wr.heap.size
  bs : Blk wr b 40 cs
  ap : ∀ g, Z g → g ≠ b ∧ ¬ Y g
  yl : ∀ g, Y g → g < wr.heap.size
  tx : SgF Y wr (.agg cs.toArray) s
theorem AskS.on {Z Z' S Y : Nat → Prop} {B b : Nat} {w wr w1 : World} {v : Value} {n f : Nat} {cs : List Value} {s : SgD} {d d1 : FdD} (h : AskS Z S Y B b w wr v n f cs s d) (hd : FdAt Z' w1 f d1) (hc : Chg wr w1 Z) (hz : ∀ g, Z' g → Wide Z wr w1 g) : AskS Z' S Y B b w w1 v n f cs s d1 := by
  have hs := hc.size
  have hbl := h.bs.lt
  refine ⟨h.own.chg hc (fun g hg e => by have := h.low g hg; have := (h.zz g e).1; omega), h.low, Nat.le_trans h.size hs, h.base, h.below.trans (hc.below h.below.size (fun k hk => Nat.le_trans h.base (h.zz k hk).1)), hd, fun g hg => ?_, h.bs.chg hc (fun e => (h.ap _ e).1 rfl), fun g hg => ?_, fun g hg => by have := h.yl g hg; omega, h.tx.chg hc (fun g hg e => (h.ap g e).2 hg)⟩
  · rcases hz g hg with e | e
    · have := h.zz g e; exact ⟨this.1, by omega⟩
    · exact ⟨Nat.le_trans h.size e.1, e.2⟩
  · rcases hz g hg with e | e
    · exact h.ap g e
    · have h1 : wr.heap.size ≤ g := e.1
      exact ⟨by omega, fun hy => by have := h.yl g hy; omega⟩
theorem AskS.quiet {Z S Y : Nat → Prop} {B b : Nat} {w wr w1 : World} {v : Value} {n f : Nat} {cs : List Value} {s : SgD} {d : FdD} (h : AskS Z S Y B b w wr v n f cs s d) (hb : Below wr.heap.size wr w1) : AskS Z S Y B b w w1 v n f cs s d :=
  h.on (h.fd.below hb) ((Chg.refl wr Z).trans (Chg.of_below (S := fun _ => False) hb) (fun _ _ h => h.elim)) (fun g hg => .inl hg)
theorem AskS.in {Z S Y : Nat → Prop} {B b : Nat} {w wr : World} {v : Value} {n f : Nat} {cs : List Value} {s : SgD} {d : FdD} (h : AskS Z S Y B b w wr v n f cs s d) : ∀ g, S g → g < wr.heap.size := fun g hg => Nat.lt_of_lt_of_le (h.low g hg) h.size
theorem step_z2 (Z : Nat → Prop) (f : Nat) (d : FdD) (p : PolD) (retry : Int) (n K : Nat) (now : Int) (hj : FdJ d p retry n K) (hn : n ≤ 4) (hK : K ≤ 10000) (hre : 1 ≤ retry ∧ retry ≤ 1000) (hnow : 0 ≤ now ∧ now ≤ 1000000000000) (w : World) (hZ : ∀ g, Z g → g < w.heap.size) (h : FdAt Z w f d) :
    Calls Try.prog 16 #[.pointer (some ⟨f, 0, none⟩), .int .i64 now] w fun e w' => ∃ A c, e = .returned (.slice A (reqL d now).length c) ∧ w'.ownsRow w.heap.size 62 2 (.slice A (reqL d now).length c) (reqL d now).length (reqCells (reqL d now)) ∧ FdAt (fun g => Wide Z w w' g ∧ (Value.slice A (reqL d now).length c).ownBlock ≠ some g) w' f (stepD d now) ∧ Chg w w' Z := by
  refine (step_any2 Z f d now hnow (by rw [hj.re]; exact hre) (by have := hj.ml; omega) (by have := hj.ord; omega) (fun x hx => by rw [hj.len]; exact hj.wh x hx) (fun k => by have := hj.tr k; exact ⟨this.1, by have := this.2; omega⟩) (by rw [hj.len]; omega) w hZ h).mono ?_
  rintro e w' ⟨v, rfl, e1, e2, e3⟩
  obtain ⟨A, c, rfl⟩ := (Sho.own e1).form
  exact ⟨A, c, rfl, e1, e2, e3⟩
/-- A reply that is kept, ahead of the quorum. -/
theorem reply_z0 (Z : Nat → Prop) (f : Nat) (d : FdD) (P : PolD) (re : Int) (n K k : Nat) (v : Value) (g : CgD) (size now : Int) (hj : FdJ d P re n K) (hn : n ≤ 4) (hK : K ≤ 10000) (hp : SmallPol P) (hs : SmallSig g.sig) (hgw : g.wit = (k : Int)) (hhas : d.has = true) (hk : k < n) (hke : (wAt d.l k).kept = false) (hyes : cgVerB P d.cur.ck g = true) (hkk : d.kept.length ≤ 1000) (w : World) (h : FdAt Z w f d) (hv : CgV w v g) (hZ : ∀ g, Z g → g < w.heap.size) :
    Calls Try.prog 18 #[.pointer (some ⟨f, 0, none⟩), .int .i64 k, v, .int .i64 size, .int .i64 now] w fun e w' => e = .returned (.bool true) ∧ FdAt (Wide Z w w') w' f (keepD d k g) ∧ Chg w w' Z := by
  obtain ⟨r, us, es, h1⟩ := h
  exact reply_kv Z f d r us es v g k size now (by rw [hj.pol]; exact hp) hj.sm.2 hs w h1 hv hgw hhas (by rw [hj.len]; exact hk) hke (by rw [hj.pol]; exact hyes) hkk (by have := hj.ml; omega) (by rw [hj.len]; omega) hZ
/-- Where the law stands ahead of a round. -/
def AskPh (P : PolD) (s : SgD) (r : Int) (k q : Nat) (d1 : FdD) (T L : Int) (d : FdD) : Prop := (T = 0 ∧ L = 0 ∧ d = d1) ∨ (1 ≤ T ∧ AskQ P s r k q T L d ∧ FdJ d P r k (T.toNat + 1))
theorem done_none (Z : Nat → Prop) (f : Nat) (d : FdD) (hen : d.enough = []) (hdn : d.done = zSg) (w : World) (hok : FdAt Z w f d) :
    Calls Try.prog 21 #[.pointer (some ⟨f, 0, none⟩)] w fun e w' => ∃ R rn rc P pn pc Q qn qc A c, e = .returned (.tuple #[.agg #[.int .i64 0, .slice R rn rc, .int .i64 0, .slice P pn pc, .slice Q qn qc], .slice A 0 c, .bool false]) ∧ Below w.heap.size w w' := by
  refine (done_any Z f d (by rw [hen]; exact Nat.zero_le _) (fun g hg => by rw [hen] at hg; exact absurd hg (by simp)) (by rw [hdn]; exact Nat.zero_le _) (by rw [hdn]; exact zCg_small) w hok).mono ?_
  rintro e w' ⟨r, p, q, v, rfl, h1, h2, h3, h4, h5⟩
  obtain ⟨R, rc, rfl⟩ := h1.form
  obtain ⟨P, pc, rfl⟩ := h2.form
  obtain ⟨Q, qc, rfl⟩ := h3.form
  obtain ⟨A, c, rfl⟩ := h4.form
  have e0 : d.enough.length = 0 := by rw [hen]; rfl
  rw [if_pos e0, e0]
  exact ⟨_, _, _, _, _, _, _, _, _, _, _, rfl, h5⟩
theorem done_some (Z : Nat → Prop) (f : Nat) (d : FdD) (s : SgD) (hd : d.done = s) (n : Nat) (hn : d.enough.length = n) (h0 : 0 < n) (h1 : n ≤ 1000) (hg : ∀ g ∈ d.enough, SmallSig g.sig) (hr : s.ck.root.length ≤ 100000000) (hs : SmallSig s.sig) (w : World) (hok : FdAt Z w f d) :
    Calls Try.prog 21 #[.pointer (some ⟨f, 0, none⟩)] w fun e w' => ∃ R rc P pc Q qc A c, e = .returned (.tuple #[.agg #[.int .i64 s.ck.num, .slice R s.ck.root.length rc, .int .i64 s.sig.index, .slice P s.sig.parts.length pc, .slice Q s.sig.path.length qc], .slice A n c, .bool true]) ∧ SgV w' (.agg #[.int .i64 s.ck.num, .slice R s.ck.root.length rc, .int .i64 s.sig.index, .slice P s.sig.parts.length pc, .slice Q s.sig.path.length qc]) s ∧ OwnC w' w.heap.size (.slice A n c) d.enough ∧ Below w.heap.size w w' := by
  subst hd hn
  refine (done_any Z f d h1 hg hr hs w hok).mono ?_
  rintro e w' ⟨r, p, q, v, rfl, h2, h3, h4, h5, h6⟩
  rw [if_neg (by omega)] at h2 h3 h4
  obtain ⟨R, rc, rfl⟩ := h2.form
  obtain ⟨P, pc, rfl⟩ := h3.form
  obtain ⟨Q, qc, rfl⟩ := h4.form
  obtain ⟨A, c, rfl⟩ := h5.form
  rw [if_neg (by omega), decide_eq_true h0]
  exact ⟨_, _, _, _, _, _, _, _, rfl, ⟨_, _, _, rfl, h2, h3, h4⟩, h5, h6⟩
theorem startQ_length (k : Nat) : (startQ k).length = k := by simp [startQ]
theorem startQ_at (k i : Nat) (h : i < k) : (reqCells (startQ k))[i * 2]? = some (.int .i64 (i : Int)) ∧ (reqCells (startQ k))[i * 2 + 1]? = some (.int .i64 0) := by
  have h2 : i < (startQ k).length := by rw [startQ_length]; exact h
  obtain ⟨a, b⟩ := reqCells_at (startQ k) i h2
  have e : (startQ k)[i] = ((i : Int), 0) := by simp [startQ]
  rw [e] at a b
  exact ⟨a, b⟩
set_option maxRecDepth 100000 in
set_option maxHeartbeats 8000000 in
theorem asks_any (n retry silent : Int) (w : World) :
    Calls Try.prog 5 #[.int .i64 n, .int .i64 retry, .int .i64 silent] w fun e w' => e = .returned (.bool true) ∧ Below w.heap.size w w' := by
  have HWI := Lib.hid (fun wz : World => within_any n 1 3 (by decide) (by decide) (by decide) wz)
  have HWR := Lib.hid (fun wz : World => within_any retry 1 9 (by decide) (by decide) (by decide) wz)
  obtain ⟨kn, hkn, hk1, hk3⟩ : ∃ kn : Nat, withinZ n 1 3 = kn ∧ 1 ≤ kn ∧ kn ≤ 3 := by
    have := withinZ_ge n 1 3 (by decide)
    obtain ⟨k, hk⟩ := Int.eq_ofNat_of_zero_le (show 0 ≤ withinZ n 1 3 by omega)
    exact ⟨k, hk, by omega, by omega⟩
  rw [hkn] at HWI
  clear hkn
  have hr := withinZ_ge retry 1 9 (by decide)
  generalize withinZ retry 1 9 = r at *
  obtain ⟨hr1, hr9⟩ := hr
  have HWQ := Lib.hid (fun wz : World => within_any silent 0 ((kn : Int) - 1) (by decide) (by omega) (by omega) wz)
  obtain ⟨q, hq, hqk⟩ : ∃ q : Nat, withinZ silent 0 ((kn : Int) - 1) = q ∧ q < kn := by
    have := withinZ_ge silent 0 ((kn : Int) - 1) (by omega)
    obtain ⟨k, hk⟩ := Int.eq_ofNat_of_zero_le (show 0 ≤ withinZ silent 0 ((kn : Int) - 1) by omega)
    exact ⟨k, hk, by omega⟩
  rw [hq] at HWQ
  clear hq
  have HO := Lib.hid (fun wz : World => owners_any kn (by omega) wz)
  have HPO := Lib.hid (fun (wz : World) (S : Nat → Prop) (v : Value) (z1 : OwnersS S wz v (kn + 1)) (z2 : ∀ g, S g → g < wz.heap.size) => lpolicy_any S kn (kn : Int) v (by omega) wz z1 z2)
  have HNW : Hid (∀ (wz : World) (v : Value), PolV wz v (polS kn (kn : Int)) → Calls Try.prog 8 #[v, .int .i64 r] wz fun e w' => ∃ f Z, e = .returned (.tuple #[.pointer (some ⟨f, 0, none⟩), .int .i64 0]) ∧ FdAt Z w' f (fdNew (polS kn (kn : Int)) r) ∧ (∀ g, Z g → wz.heap.size ≤ g ∧ g < w'.heap.size) ∧ Below wz.heap.size wz w') := Lib.hid (fun wz v z => fnew_yes v (polS kn (kn : Int)) r (pol_small kn _ (by omega) (by omega) (by omega)) (pol_right kn _ hk1 hk3 (by omega) (by omega)) hr1 (by omega) wz z)
  have HSP := Lib.hid (pol_small kn (kn : Int) (by omega) (by omega) (by omega))
  have HSN := Lib.hid (fun (wz : World) (S : Nat → Prop) (b : Nat) (z1 : OwnerS S wz b (seedS ((0 : Nat) : Int))) (z2 : ∀ g, S g → g < wz.heap.size) => signed_any S b (seedS ((0 : Nat) : Int)) 4 (by decide) (by decide) (by rw [seedS_length]; decide) wz z1 z2)
  have HCK : Hid (ckVerB (polS kn (kn : Int)).log (signedS (seedS ((0 : Nat) : Int)) 4) = true ∧ SmallSig (signedS (seedS ((0 : Nat) : Int)) 4).sig ∧ (signedS (seedS ((0 : Nat) : Int)) 4).ck.root.length ≤ 1000000 ∧ (signedS (seedS ((0 : Nat) : Int)) 4).ck.num = 4) := Lib.hid ⟨ck_of (seedS 0) 4 (by decide) (by decide), (signed_small _ 4 (by decide)).1, by show (hashS 4).length ≤ _; rw [hashS_length]; decide, rfl⟩
  have HSZ : Hid ((signedS (seedS ((0 : Nat) : Int)) 4).sig.parts.length ≤ 1000000 ∧ (signedS (seedS ((0 : Nat) : Int)) 4).sig.path.length ≤ 1000000) := Lib.hid ⟨by show (partsS _ _ _).length ≤ _; rw [partsS_length]; decide, by show (sigPath _ _ _).length ≤ _; rw [sigPath_length]; decide⟩
  obtain ⟨cg, hcg⟩ : ∃ cg : Nat → CgD, ∀ k, cg k = cosigS (seedS ((k + 1 : Nat) : Int)) (k : Int) (signedS (seedS ((0 : Nat) : Int)) 4).ck := ⟨_, fun _ => rfl⟩
  have HCG : Hid (∀ k, k < kn → cgVerB (polS kn (kn : Int)) (signedS (seedS ((0 : Nat) : Int)) 4).ck (cg k) = true ∧ SmallSig (cg k).sig ∧ (cg k).wit = (k : Int)) := Lib.hid (fun k hk => by
    rw [hcg]
    exact ⟨cg_of kn (kn : Int) hk1 hk3 (by omega) (by omega) 4 (by decide) (by decide) k hk, cg_small _ _ 4 (by decide), rfl⟩)
  have HCS : Hid (∀ k, SmallSig (cg k).sig) := Lib.hid (fun k => by rw [hcg]; exact cg_small _ _ 4 (by decide))
  have HCO : Hid (∀ (k : Nat) (hk : k < kn) (S : Nat → Prop) (g o cc : Nat) (vc : Value) (wz : World) (z1 : OwnersS S wz (.slice (some ⟨g, o, none⟩) (kn + 1) cc) (kn + 1)) (z2 : ∀ g, S g → g < wz.heap.size) (z3 : CkV wz vc (signedS (seedS ((0 : Nat) : Int)) 4).ck), Calls Try.prog 20 #[.slice (some ⟨g, o, none⟩) (kn + 1) cc, .int .i64 k, vc] wz fun e w' => ∃ v, e = .returned v ∧ CgV w' v (cg k) ∧ Below wz.heap.size wz w') := Lib.hid (fun k hk S g o cc vc wz z1 z2 z3 => by
    refine (cosig_any S g o cc (kn + 1) k vc _ (by omega) (by omega) (by show (0 : Int) ≤ 4; decide) (by show (4 : Int) ≤ 256; decide) (by show (hashS 4).length ≤ _; rw [hashS_length]; decide) wz z1 z2 z3).mono ?_
    rintro e w' ⟨v, h1, h2, h3⟩
    rw [hcg]
    exact ⟨v, h1, h2.cgv, h3⟩)
  have HPP : Hid ((polS kn (kn : Int)).wits.length = kn ∧ (polS kn (kn : Int)).log.length = 32 ∧ (polS kn (kn : Int)).quorum = (kn : Int)) := Lib.hid ⟨witS_length kn, by show (ownerS (seedS 0)).length = 32; exact ownerS_length _, rfl⟩
  have hj0 := fdj_new (polS kn (kn : Int)) r
  rw [HPP.out.1] at hj0
  clear hcg
  generalize polS kn (kn : Int) = P at *
  generalize signedS (seedS ((0 : Nat) : Int)) 4 = s at *
  obtain ⟨hst, hrq⟩ := asks_start P s kn hk1 hk3 HPP.out.1 r hr1 hr9
  have hof : offB (fdNew P r) s = true := by
    show (ckVerB P.log s && !(false && _)) = true
    rw [HCK.out.1]; rfl
  have hon : offN (fdNew P r) s 0 = offD (fdNew P r) s 0 := by unfold offN; rw [hof, if_pos rfl]
  have hj1 := hj0.offN (by omega) s HCK.out.2.1 (by have := HCK.out.2.2.1; omega) 0
  rw [hon] at hj1
  have hj2 := hj1.step 0 (by rw [reqL_dueN, hrq, startQ_length]; omega)
  have HOF := Lib.hid (fun (f : Nat) (wz : World) (Zz : Nat → Prop) (v : Value) (z0 : ∀ g, Zz g → g < wz.heap.size) (z1 : FdAt Zz wz f (fdNew P r)) (z2 : SgV wz v s) => offer_z Zz f (fdNew P r) P r kn _ v s 0 hj0 (by omega) (by decide) (by rw [HPP.out.2.1]; decide) (by have := HCK.out.2.2.1; omega) HCK.out.2.1 wz z0 z1 z2)
  rw [hof, hon] at HOF
  have HS0 := Lib.hid (fun (f : Nat) (wz : World) (Zz : Nat → Prop) (z0 : ∀ g, Zz g → g < wz.heap.size) (z1 : FdAt Zz wz f (offD (fdNew P r) s 0)) => step_z2 Zz f _ P r kn _ 0 hj1 (by omega) (by omega) (by omega) (by decide) wz z0 z1)
  rw [hrq, hst, startQ_length] at HS0
  rw [hst] at hj2
  have HSQ := Lib.hid (fun (i : Nat) (h : i < kn) => startQ_at kn i h)
  generalize reqCells (startQ kn) = rqc at *
  have HJN := Lib.hid (fun j : Nat => askN_J q cg _ hj2 j)
  have HAN := Lib.hid (fun j : Nat => askN_any q cg (startD P s zSg kn r) j)
  have HAL := Lib.hid (fun (j i : Nat) (h : j ≤ i ∨ i = q) => askN_l q cg (startD P s zSg kn r) j i h)
  have HSL := Lib.hid (fun (i : Nat) (h : i < kn) => start_l P s zSg kn r i h)
  have HAK := Lib.hid (fun j : Nat => askN_kept q cg (startD P s zSg kn r) rfl j)
  have HAS : Hid (∀ j, askN q cg (startD P s zSg kn r) (j + 1) = if j = q then askN q cg (startD P s zSg kn r) j else keep0 (askN q cg (startD P s zSg kn r) j) j (cg j)) := Lib.hid (fun j => rfl)
  have HA0 : Hid (askN q cg (startD P s zSg kn r) 0 = startD P s zSg kn r) := Lib.hid rfl
  have HQ1 := Lib.hid (askq_start P s kn hk1 hk3 r hr1 q hqk cg HCS.out)
  have HDF : Hid ((startD P s zSg kn r).has = true ∧ (startD P s zSg kn r).cur = s ∧ (startD P s zSg kn r).p = P) := Lib.hid ⟨rfl, rfl, rfl⟩
  have HJ1 := Lib.hid hj1
  clear hst hrq hof hon hj0 hj1 hj2
  generalize fdNew P r = d0 at *
  generalize offD d0 s 0 = d1 at *
  generalize startD P s zSg kn r = d2 at *
  generalize hAN : askN q cg d2 = an at *
  clear hAN
  generalize hsd : seedS ((0 : Nat) : Int) = sd at *
  have HSD := Lib.hid hsd
  clear hsd
  go_enter Try.func5, Try.ntmps5
  go_wp2_with fail
  refine (HWI.out _).mono ?_
  rintro e w' ⟨rfl, rfl⟩
  go_wp2_with fail
  refine (HWR.out _).mono ?_
  rintro e w' ⟨rfl, rfl⟩
  go_wp2_with fail
  refine (HO.out _).mono ?_
  rintro e w1 ⟨v1, rfl, h1, h2⟩
  obtain ⟨A1, c1, rfl⟩ := h1.form
  have H1 := Lib.hid (And.intro h1 h2)
  clear h1 h2
  go_wp2_with fail
  refine (HPO.out _ _ _ H1.out.1 (fun g hg => hg.2)).mono ?_
  rintro e w2 ⟨v2, rfl, h1, h2⟩
  have H2 := Lib.hid (And.intro h1 (And.intro (H1.out.1.below h2) (And.intro (H1.out.2.trans (h2.mono H1.out.2.size)) h2.size)))
  clear h1 h2
  go_wp2_with fail
  refine (HNW.out _ _ H2.out.1).mono ?_
  rintro e w3 ⟨f, Z, rfl, h1, h2, h3⟩
  have H3 := Lib.hid (And.intro h1 (And.intro h2 (And.intro (H2.out.2.1.below h3) (And.intro (H2.out.2.2.1.trans (h3.mono H2.out.2.2.1.size)) h3.size))))
  clear h1 h2 h3
  obtain ⟨g, o, b0, rfl, hg0, -, hcap, hc0, ho0⟩ := H3.out.2.2.1.at' 0 (by omega)
  rw [Nat.add_zero] at hc0
  rw [HSD.out] at ho0
  go_wp2_with fail
  refine (HSN.out _ _ _ ho0 (fun x hx => by have h1 : x < w1.heap.size := hx.2; have := H2.out.2.2.2; have := H3.out.2.2.2.2; omega)).mono ?_
  rintro e w4 ⟨v4, rfl, h1, h2⟩
  clear hc0 ho0 hg0
  have hfd4 := H3.out.1.below h2
  obtain ⟨⟨num, root⟩, ⟨ix, Ps, Qs⟩⟩ := s
  obtain ⟨hck1, hck2, hck3, hck4⟩ := HCK.out
  obtain rfl : num = 4 := hck4
  obtain ⟨r4, p4, q4, rfl, k1, k2, k3⟩ := h1
  obtain ⟨R, cr, rfl⟩ := k1.1.form
  obtain ⟨P4, cp, rfl⟩ := k2.rws.form
  obtain ⟨Q4, cq, rfl⟩ := k3.rws.form
  have hal := (Below.refl w4.heap.size w4).alloc (Nat.le_refl _) (.cells #[.int .i64 4, .slice R root.length cr, .int .i64 ix, .slice P4 Ps.length cp, .slice Q4 Qs.length cq] 40)
  have HS5 : Hid (AskS Z (fun g => w.heap.size ≤ g ∧ g < w1.heap.size) (fun g => (w.heap.size ≤ g ∧ g < w1.heap.size) ∨ (w3.heap.size ≤ g ∧ g < w4.heap.size)) w2.heap.size w4.heap.size w (w4.alloc (.cells #[.int .i64 4, .slice R root.length cr, .int .i64 ix, .slice P4 Ps.length cp, .slice Q4 Qs.length cq] 40)) (.slice (some ⟨g, o, none⟩) (kn + 1) c1) (kn + 1) f [.int .i64 4, .slice R root.length cr, .int .i64 ix, .slice P4 Ps.length cp, .slice Q4 Qs.length cq] ⟨⟨4, root⟩, ⟨ix, Ps, Qs⟩⟩ d0) := Lib.hid (by
    have z1 := H2.out.2.2.2
    have z2 := H3.out.2.2.2.2
    have z3 := h2.size
    have z4 := H1.out.2.size
    have z5 : (w4.alloc (.cells #[.int .i64 4, .slice R root.length cr, .int .i64 ix, .slice P4 Ps.length cp, .slice Q4 Qs.length cq] 40)).heap.size = w4.heap.size + 1 := by simp
    refine ⟨(H3.out.2.2.1.below h2).below hal, fun x hx => by have h9 : x < w1.heap.size := hx.2; omega, by omega, by omega, (H3.out.2.2.2.1.trans (h2.mono (by omega))).trans (hal.mono (by omega)), hfd4.below hal, fun x hx => by have := H3.out.2.1 x hx; omega, Blk.new w4 _ _, fun x hx => ?_, fun x hx => ?_, ⟨_, _, _, rfl, k1.below hal, k2.below hal, k3.below hal⟩⟩
    · have := H3.out.2.1 x hx
      exact ⟨by omega, fun e => by
        rcases e with e | e
        · have h9 : x < w1.heap.size := e.2; omega
        · have h9 : w3.heap.size ≤ x := e.1; omega⟩
    · rcases hx with e | e
      · have h9 : x < w1.heap.size := e.2; omega
      · have h9 : x < w4.heap.size := e.2; omega)
  clear H1 H2 H3 HPO HNW HO HSN h2 k1 k2 k3 hfd4 hck1 hck2 hck3 hal
  go_wp2_with fail
  refine (HOF.out f _ Z _ (fun x hx => (HS5.out.zz x hx).2) HS5.out.fd HS5.out.tx.sgv).mono ?_
  rintro e w5 ⟨rfl, h⟩
  have H5 := Lib.hid (HS5.out.on h.1 h.2 (fun x hx => hx))
  clear h HS5 HOF
  generalize (fun g => (w.heap.size ≤ g ∧ g < w1.heap.size) ∨ (w3.heap.size ≤ g ∧ g < w4.heap.size)) = Y at *
  generalize (fun g => w.heap.size ≤ g ∧ g < w1.heap.size) = S at *
  generalize hBB : w2.heap.size = B at *
  generalize hbb : w4.heap.size = b at *
  generalize Wide Z _ w5 = Z5 at *
  clear hBB hbb
  go_wp2_with fail
  refine (HWQ.out _).mono ?_
  rintro e w' ⟨rfl, rfl⟩
  go_wp2_with fail
  go_loopw [14, 15] (fun v14 v15 wr => ∃ (L T : Int) (d : FdD), v14 = .int .i64 L ∧ v15 = .int .i64 T ∧ 0 ≤ T ∧ T ≤ 200 ∧ 0 ≤ L ∧ L ≤ T ∧ Hid (AskPh P ⟨⟨4, root⟩, ⟨ix, Ps, Qs⟩⟩ r kn q d1 T L d ∧ ∃ Z, AskS Z S Y B b w wr (.slice (some ⟨g, o, none⟩) (kn + 1) c1) (kn + 1) f [.int .i64 4, .slice R root.length cr, .int .i64 ix, .slice P4 Ps.length cp, .slice Q4 Qs.length cq] ⟨⟨4, root⟩, ⟨ix, Ps, Qs⟩⟩ d)) (fun _ v _ => (200 - intOf v).toNat)
  case atStart => exact ⟨0, 0, d1, rfl, rfl, by decide, by decide, by decide, by decide, Lib.hid ⟨.inl ⟨rfl, rfl, rfl⟩, _, H5.out⟩⟩
  case round =>
    clear H5
    obtain ⟨L, T, d, rfl, rfl, hT0, hT2, hL0, hLT, HI⟩ := hrel
    by_cases hlt : T < 200
    · by_cases hT : T = 0
      · subst hT
        obtain ⟨hLe, hde⟩ : L = 0 ∧ d = d1 := by
          rcases HI.out.1 with ⟨_, h2, h3⟩ | ⟨h2, _⟩
          · exact ⟨h2, h3⟩
          · omega
        subst hLe hde
        obtain ⟨Z, hI⟩ := HI.out.2
        have HI2 := Lib.hid hI
        clear hI HI hT0 hT2 hL0 hLT
        go_wp2_with fail
        refine (HS0.out f _ Z (fun x hx => (HI2.out.zz x hx).2) HI2.out.fd).mono ?_
        rintro e w6 ⟨A, c, rfl, e1, e2, e3⟩
        have H6 : Hid (∃ Z2, AskS Z2 S Y B b w w6 (.slice (some ⟨g, o, none⟩) (kn + 1) c1) (kn + 1) f [.int .i64 4, .slice R root.length cr, .int .i64 ix, .slice P4 Ps.length cp, .slice Q4 Qs.length cq] ⟨⟨4, root⟩, ⟨ix, Ps, Qs⟩⟩ (an 0) ∧ w6.ownsRow wr.heap.size 62 2 (.slice A kn c) kn rqc ∧ ∀ x, (Value.slice A kn c).ownBlock = some x → ¬ Z2 x) := Lib.hid (by
          rw [HA0.out]
          exact ⟨_, HI2.out.on e2 e3 (fun x hx => hx.1), e1, fun x hx hz => hz.2 hx⟩)
        clear e1 e2 e3 HI2
        generalize hBq : wr.heap.size = Bq at *
        clear hBq
        go_wp2
        go_loopw [14, 66] (fun v14 v66 wi => ∃ i : Nat, v14 = .int .i64 0 ∧ v66 = .int .i64 i ∧ i ≤ kn ∧ Hid (∃ Z2, AskS Z2 S Y B b w wi (.slice (some ⟨g, o, none⟩) (kn + 1) c1) (kn + 1) f [.int .i64 4, .slice R root.length cr, .int .i64 ix, .slice P4 Ps.length cp, .slice Q4 Qs.length cq] ⟨⟨4, root⟩, ⟨ix, Ps, Qs⟩⟩ (an i) ∧ wi.ownsRow Bq 62 2 (.slice A kn c) kn rqc ∧ ∀ x, (Value.slice A kn c).ownBlock = some x → ¬ Z2 x)) (fun _ v _ => kn - (intOf v).toNat)
        case atStart => exact ⟨0, rfl, rfl, Nat.zero_le _, H6⟩
        case round =>
          clear H6
          obtain ⟨i, rfl, rfl, hik, HK⟩ := hrel
          by_cases hik2 : i < kn
          · obtain ⟨Z2, hK1, hK2, hK3⟩ := HK.out
            obtain ⟨gq, cap, eA, hgw, hgl⟩ := hK2.form (by omega)
            injection eA with eA1 eA2 eA3
            subst eA1 eA3
            have hcell : ∀ j u, rqc[j]? = some u → wr.cell? ⟨gq, j, none⟩ = some u := fun j u hu => by
              obtain ⟨g', o', e1, -, -, -, -, h8⟩ := (Sho.own hK2).place (by omega)
              injection e1 with e1
              injection e1 with e1 e2
              subst e1 e2
              have := h8 j u hu
              rwa [Nat.zero_add] at this
            have p0 := hcell (i * 2) _ (HSQ.out i hik2).1
            have p1 := hcell (i * 2 + 1) _ (HSQ.out i hik2).2
            have HK2 := Lib.hid (And.intro hK1 (And.intro hK2 hK3))
            clear hcell hK1 hK2 hK3 HK
            by_cases hiq : i = q
            · subst hiq
              go_wp2
              go_roundw
              case rel => exact ⟨i + 1, rfl, by go_num, by omega, Lib.hid (by
                have ha := HAS.out i
                rw [if_pos rfl] at ha
                have hal := (Below.refl wr.heap.size wr).alloc (Nat.le_refl _) (.cells #[.int .i64 i, .int .i64 0] 62)
                rw [ha]
                exact ⟨Z2, HK2.out.1.quiet hal, ownsRow_chg HK2.out.2.1 (Chg.of_below (S := fun _ => False) hal) (fun _ _ h => h), HK2.out.2.2⟩)⟩
              case measure => simp [intOf]; omega
            · have hne : (((i : Int) == (q : Int)) : Bool) = false := by rw [beq_eq_false_iff_ne]; omega
              go_wp2
              refine code_at (fun w7 => Blk w7 wr.heap.size 62 [.int .i64 i, .int .i64 0] ∧ Below wr.heap.size wr w7) ⟨Blk.new wr 62 [.int .i64 i, .int .i64 0], (Below.refl _ _).alloc (Nat.le_refl _) _⟩ ?_
              rintro w7 ⟨k0, kb⟩
              have hq7 := HK2.out.1.quiet kb
              have c0 := k0.cell 0 _ rfl
              have c1' := k0.cell 1 _ rfl
              have c2 := hq7.bs.cell 0 _ rfl
              have c3 := hq7.bs.cell 1 _ rfl
              have hl0 := k0.lt
              have hlb := hq7.bs.lt
              have H7 := Lib.hid (And.intro hq7 (And.intro k0 kb))
              clear k0 kb hq7 p0 p1
              refine wp_region_held_drew (S := fun w' => w'.cell? ⟨wr.heap.size, 0, none⟩ = some (.int .i64 i) ∧ w'.cell? ⟨wr.heap.size, 1, none⟩ = some (.int .i64 0) ∧ w'.cell? ⟨b, 0, none⟩ = some (.int .i64 4) ∧ w'.cell? ⟨b, 1, none⟩ = some (.slice R root.length cr)) (by kernel_rfl) ?_ (fun hHeld => ?_)
              · exact ⟨c0, c1', c2, c3⟩
              refine take_yes 0 74 rfl rfl (by kernel_rfl) (by kernel_rfl) (by kernel_rfl) (fun _ _ _ h => h) (by assumption) (by rfl) (v := ?_) ?_ ?_
              rotate_left 1
              · (intro w hSw; (try dsimp only at hSw); go_simp; try with_reducible rfl)
              simp only [List.setIfInBounds_toArray, List.set_cons_zero, List.set_cons_succ]
              refine take_yes 1 75 rfl rfl (by kernel_rfl) (by kernel_rfl) (by kernel_rfl) (fun _ _ _ h => h) (by assumption) (by rfl) (v := ?_) ?_ ?_
              rotate_left 1
              · (intro w hSw; (try dsimp only at hSw); go_simp; try with_reducible rfl)
              simp only [List.setIfInBounds_toArray, List.set_cons_zero, List.set_cons_succ]
              refine take_yes 2 76 rfl rfl (by kernel_rfl) (by kernel_rfl) (by kernel_rfl) (fun _ _ _ h => h) (by assumption) (by rfl) (v := ?_) ?_ ?_
              rotate_left 1
              · (intro w hSw; (try dsimp only at hSw); go_simp; try with_reducible rfl)
              simp only [List.setIfInBounds_toArray, List.set_cons_zero, List.set_cons_succ]
              refine take_yes 3 77 rfl rfl (by kernel_rfl) (by kernel_rfl) (by kernel_rfl) (fun _ _ _ h => h) (by assumption) (by rfl) (v := ?_) ?_ ?_
              rotate_left 1
              · (intro w hSw; (try dsimp only at hSw); go_simp; try with_reducible rfl)
              simp only [List.setIfInBounds_toArray, List.set_cons_zero, List.set_cons_succ]
              refine take_yes 4 78 rfl rfl (by kernel_rfl) (by kernel_rfl) (by kernel_rfl) (fun _ _ _ h => h) (by assumption) (by rfl) (v := ?_) ?_ ?_
              rotate_left 1
              · (intro w hSw; (try dsimp only at hSw); go_simp; try with_reducible rfl)
              simp only [List.setIfInBounds_toArray, List.set_cons_zero, List.set_cons_succ]
              refine take_yes 5 79 rfl rfl (by kernel_rfl) (by kernel_rfl) (by kernel_rfl) (fun _ _ _ h => h) (by assumption) (by rfl) (v := ?_) ?_ ?_
              rotate_left 1
              · (intro w hSw; (try dsimp only at hSw); go_simp; try with_reducible rfl)
              simp only [List.setIfInBounds_toArray, List.set_cons_zero, List.set_cons_succ]
              refine take_yes 6 80 rfl rfl (by kernel_rfl) (by kernel_rfl) (by kernel_rfl) (fun _ _ _ h => h) (by assumption) (by rfl) (v := ?_) ?_ ?_
              rotate_left 1
              · (intro w hSw; (try dsimp only at hSw); go_simp; try with_reducible rfl)
              simp only [List.setIfInBounds_toArray, List.set_cons_zero, List.set_cons_succ]
              refine take_yes 7 81 rfl rfl (by kernel_rfl) (by kernel_rfl) (by kernel_rfl) (fun _ _ _ h => h) (by assumption) (by rfl) (v := ?_) ?_ ?_
              rotate_left 1
              · (intro w hSw; (try dsimp only at hSw); go_simp; try with_reducible rfl)
              simp only [List.setIfInBounds_toArray, List.set_cons_zero, List.set_cons_succ]
              refine take_yes 8 82 rfl rfl (by kernel_rfl) (by kernel_rfl) (by kernel_rfl) (fun _ _ _ h => h) (by assumption) (by rfl) (v := ?_) ?_ ?_
              rotate_left 1
              · (intro w hSw; (try dsimp only at hSw); go_simp; try with_reducible rfl)
              simp only [List.setIfInBounds_toArray, List.set_cons_zero, List.set_cons_succ]
              refine take_yes 9 83 rfl rfl (by kernel_rfl) (by kernel_rfl) (by kernel_rfl) (fun _ _ _ h => h) (by assumption) (by rfl) (v := ?_) ?_ ?_
              rotate_left 1
              · (intro w hSw; (try dsimp only at hSw); go_simp; try with_reducible rfl)
              simp only [List.setIfInBounds_toArray, List.set_cons_zero, List.set_cons_succ]
              refine take_yes 10 84 rfl rfl (by kernel_rfl) (by kernel_rfl) (by kernel_rfl) (fun _ _ _ h => h) (by assumption) (by rfl) (v := ?_) ?_ ?_
              rotate_left 1
              · (intro w hSw; (try dsimp only at hSw); go_simp; try with_reducible rfl)
              simp only [List.setIfInBounds_toArray, List.set_cons_zero, List.set_cons_succ]
              refine take_yes 11 85 rfl rfl (by kernel_rfl) (by kernel_rfl) (by kernel_rfl) (fun _ _ _ h => h) (by assumption) (by rfl) (v := ?_) ?_ ?_
              rotate_left 1
              · (intro w hSw; (try dsimp only at hSw); go_simp; try with_reducible rfl)
              simp only [List.setIfInBounds_toArray, List.set_cons_zero, List.set_cons_succ]
              refine take_yes 12 86 rfl rfl (by kernel_rfl) (by kernel_rfl) (by kernel_rfl) (fun _ _ _ h => h) (by assumption) (by rfl) (v := ?_) ?_ ?_
              rotate_left 1
              · (intro w hSw; (try dsimp only at hSw); go_simp; try with_reducible rfl)
              simp only [List.setIfInBounds_toArray, List.set_cons_zero, List.set_cons_succ]
              refine take_yes 13 87 rfl rfl (by kernel_rfl) (by kernel_rfl) (by kernel_rfl) (fun _ _ _ h => h) (by assumption) (by rfl) (v := ?_) ?_ ?_
              rotate_left 1
              · (intro w hSw; (try dsimp only at hSw); go_simp; try with_reducible rfl)
              simp only [List.setIfInBounds_toArray, List.set_cons_zero, List.set_cons_succ]
              refine take_yes 14 88 rfl rfl (by kernel_rfl) (by kernel_rfl) (by kernel_rfl) (fun _ _ _ h => h) (by assumption) (by rfl) (v := ?_) ?_ ?_
              rotate_left 1
              · (intro w hSw; (try dsimp only at hSw); go_simp; try with_reducible rfl)
              simp only [List.setIfInBounds_toArray, List.set_cons_zero, List.set_cons_succ]
              refine take_yes 15 89 rfl rfl (by kernel_rfl) (by kernel_rfl) (by kernel_rfl) (fun _ _ _ h => h) (by assumption) (by rfl) (v := ?_) ?_ ?_
              rotate_left 1
              · (intro w hSw; (try dsimp only at hSw); go_simp; try with_reducible rfl)
              simp only [List.setIfInBounds_toArray, List.set_cons_zero, List.set_cons_succ]
              refine take_yes 17 91 rfl rfl (by kernel_rfl) (by kernel_rfl) (by kernel_rfl) (fun _ _ _ h => h) (by assumption) (by rfl) (v := ?_) ?_ ?_
              rotate_left 1
              · (intro w hSw; (try dsimp only at hSw); go_simp; try with_reducible rfl)
              simp only [List.setIfInBounds_toArray, List.set_cons_zero, List.set_cons_succ]
              refine wpAnyH_ready (rs := [16]) (by kernel_rfl) (by simp) ?_
              refine AllReadyH.cons rfl (fun K hK => ?_) AllReadyH.nil
              -- 16:  dst := some 90, op := Op.call  callee := Callee.value (Operand.func 20), args := #[Operand.tmp 85, Operand.tmp 87, Operand.tmp 
              go_simp
              go_at_call 20
              refine (HCO.out i hik2 S g o c1 _ w7.drew (H7.out.1.own.below (Below.refl _ _).drew) (fun x hx => H7.out.1.in x hx) ⟨_, rfl, by obtain ⟨r9, p9, q9, e9, z1, z2, z3⟩ := H7.out.1.tx; injection e9 with e9; injection e9 with e9; injection e9 with _ e9; injection e9 with e9 _; rw [e9]; exact z1.1.below (Below.refl _ _).drew⟩).mono ?_
              rintro e w8 ⟨v8, rfl, ⟨p8, q8, rfl, z1, z2⟩, h8'⟩
              have h8 : Below w7.heap.size w7 w8 := ⟨h8'.os, h8'.tape, h8'.output, h8'.size, h8'.block⟩
              obtain ⟨P8, cp8, rfl⟩ := z1.form
              obtain ⟨Q8, cq8, rfl⟩ := z2.form
              have hq8 := H7.out.1.quiet h8
              have k8 := H7.out.2.1.below h8
              have j0 := k8.cell 0 _ rfl
              have j1 := k8.cell 1 _ rfl
              have j2 := hq8.bs.cell 0 _ rfl
              have j3 := hq8.bs.cell 1 _ rfl
              have H8 := Lib.hid (And.intro hq8 (And.intro k8 (And.intro (H7.out.2.2.trans (h8.mono H7.out.2.2.size)) (show CgV w8 (.agg #[.int .i64 (cg i).wit, .int .i64 (cg i).sig.index, .slice P8 (cg i).sig.parts.length cp8, .slice Q8 (cg i).sig.path.length cq8]) (cg i) from ⟨_, _, rfl, z1, z2⟩))))
              clear z1 z2 h8 h8' hq8 k8
              try dsimp only
              refine hK.out _ _ ⟨j0, j1, j2, j3⟩ (fun hHeld16 => ?_)
              clear hK K
              try simp only [Act.put, List.setIfInBounds_toArray, List.set_cons_zero, List.set_cons_succ]
              refine wpAnyH_ready (rs := [18]) (by kernel_rfl) (by simp) ?_
              refine AllReadyH.cons rfl (fun K hK => ?_) AllReadyH.nil
              -- 18:  dst := some 92, op := Op.call  callee := Callee.value (Operand.func 18), args := #[Operand.tmp 82, Operand.tmp 84, Operand.tmp 
              go_simp
              go_at_call 18
              refine (reply_z0 Z2 f (an i) P r kn 2 i _ (cg i) 0 0 (HJN.out i) (by omega) (by decide) HSP.out (HCG.out i hik2).2.1 (HCG.out i hik2).2.2 (by rw [(HAN.out i).2.1]; exact HDF.out.1) hik2 (by rw [HAL.out i i (.inl (Nat.le_refl _)), HSL.out i hik2]) (by rw [(HAN.out i).2.2.1, HDF.out.2.1]; exact (HCG.out i hik2).1) (by rw [HAK.out i]; split <;> omega) w8 H8.out.1.fd H8.out.2.2.2 (fun x hx => (H8.out.1.zz x hx).2)).mono ?_
              rintro e w9 ⟨rfl, m1, m2⟩
              have hq9 := H8.out.1.on m1 m2 (fun x hx => hx)
              have hwi : ∀ x, Z2 x → x < wr.heap.size := fun x hx => (HK2.out.1.zz x hx).2
              have k9 := H8.out.2.1.chg m2 (fun e => by have := hwi _ e; omega)
              have i0 := k9.cell 0 _ rfl
              have i1 := k9.cell 1 _ rfl
              have i2 := hq9.bs.cell 0 _ rfl
              have i3 := hq9.bs.cell 1 _ rfl
              have H9 : Hid (∃ Z2, AskS Z2 S Y B b w w9 (.slice (some ⟨g, o, none⟩) (kn + 1) c1) (kn + 1) f [.int .i64 4, .slice R root.length cr, .int .i64 ix, .slice P4 Ps.length cp, .slice Q4 Qs.length cq] ⟨⟨4, root⟩, ⟨ix, Ps, Qs⟩⟩ (an (i + 1)) ∧ w9.ownsRow Bq 62 2 (.slice (some ⟨gq, 0, none⟩) kn c) kn rqc ∧ ∀ x, (Value.slice (some ⟨gq, 0, none⟩) kn c).ownBlock = some x → ¬ Z2 x) := Lib.hid (by
                have ha : an (i + 1) = keepD (an i) i (cg i) := by
                  have h1 := HAS.out i
                  rw [if_neg hiq] at h1
                  rw [h1]
                  unfold keepD
                  rw [if_neg]
                  rw [(HAN.out i).1, HDF.out.2.2, HPP.out.2.2, HAK.out i]
                  split <;> omega
                rw [ha]
                have o7 := ownsRow_chg HK2.out.2.1 (Chg.of_below (S := fun _ => False) H8.out.2.2.1) (fun _ _ h => h)
                refine ⟨_, hq9, ownsRow_chg o7 m2 HK2.out.2.2, fun x hx e => ?_⟩
                rcases e with e | e
                · exact HK2.out.2.2 x hx e
                · have h1 : w8.heap.size ≤ x := e.1
                  have h2 := (World.ownsRow.lt HK2.out.2.1 x hx).2
                  have h3 := H8.out.2.2.1.size
                  omega)
              clear m1 m2 hq9 k9
              try dsimp only
              refine hK.out _ _ ⟨i0, i1, i2, i3⟩ (fun hHeld18 => ?_)
              clear hK K
              try simp only [Act.put, List.setIfInBounds_toArray, List.set_cons_zero, List.set_cons_succ]
              refine take_yes 19 93 rfl rfl (by kernel_rfl) (by kernel_rfl) (by kernel_rfl) (fun _ _ _ h => h) (by assumption) (by rfl) (v := ?_) ?_ ?_
              rotate_left 1
              · (intro w hSw; (try dsimp only at hSw); go_simp; try with_reducible rfl)
              simp only [List.setIfInBounds_toArray, List.set_cons_zero, List.set_cons_succ]
              refine take_yes 20 94 rfl rfl (by kernel_rfl) (by kernel_rfl) (by kernel_rfl) (fun _ _ _ h => h) (by assumption) (by rfl) (v := ?_) ?_ ?_
              rotate_left 1
              · (intro w hSw; (try dsimp only at hSw); go_simp; try with_reducible rfl)
              simp only [List.setIfInBounds_toArray, List.set_cons_zero, List.set_cons_succ]
              refine wpAnyH_done (by kernel_rfl) ?_ _
              clear hHeld hHeld16 hHeld18 c0 c1' c2 c3
              go_wp2
              go_roundw
              case rel => exact ⟨i + 1, rfl, by go_num, by omega, H9⟩
              case measure => simp [intOf]; omega
          · obtain rfl : i = kn := by omega
            have H8 := Lib.hid HK.out
            clear HK
            go_wp2
            go_roundw
            case rel => exact ⟨0, 1, an i, rfl, rfl, by decide, by decide, by decide, by decide, Lib.hid ⟨.inr ⟨by decide, HQ1.out, HJN.out i⟩, by obtain ⟨Z2, h1, _, _⟩ := H8.out; exact ⟨Z2, h1⟩⟩⟩
            case measure => simp [intOf]
      · obtain ⟨hT1, hQ, hJ⟩ : 1 ≤ T ∧ AskQ P ⟨⟨4, root⟩, ⟨ix, Ps, Qs⟩⟩ r kn q T L d ∧ FdJ d P r kn (T.toNat + 1) := by
          rcases HI.out.1 with ⟨h1, _, _⟩ | h1
          · exact absurd h1 hT
          · exact h1
        obtain ⟨Z, hI⟩ := HI.out.2
        have HI2 := Lib.hid hI
        obtain ⟨m, d', cells, hm1, hml, hmd, hmc, hmJ, hmQ⟩ : ∃ (m : Nat) (d' : FdD) (cells : List Value), m ≤ 1 ∧ (reqL d T).length = m ∧ stepD d T = d' ∧ (reqCells (reqL d T) = cells ∧ ∀ i, i < m → cells[i * 2]? = some (.int .i64 q) ∧ cells[i * 2 + 1]? = some (.int .i64 0)) ∧ FdJ d' P r kn ((T + 1).toNat + 1) ∧ ∀ L2, ((m = 0 ∧ L2 = L) ∨ (m = 1 ∧ L2 = T)) → AskQ P ⟨⟨4, root⟩, ⟨ix, Ps, Qs⟩⟩ r kn q (T + 1) L2 d' ∧ T - L2 ≤ 8 * r := by
          have e9 : (T + 1).toNat + 1 = T.toNat + 1 + 1 := by omega
          rcases ask_round hQ hJ hr1 hqk with ⟨a1, a2, a3, a4⟩ | ⟨a1, a3⟩
          · refine ⟨0, d, [], by omega, by rw [a1]; rfl, a2, ⟨by rw [a1]; rfl, fun i hi => absurd hi (Nat.not_lt_zero _)⟩, ?_, fun L2 h2 => ?_⟩
            · rw [e9]; exact hJ.more (by omega)
            · rcases h2 with ⟨_, rfl⟩ | ⟨h2, _⟩
              · exact ⟨a3, a4⟩
              · omega
          · refine ⟨1, stepD d T, _, by omega, by rw [a1]; rfl, rfl, ⟨rfl, fun i hi => ?_⟩, ?_, fun L2 h2 => ?_⟩
            · obtain rfl : i = 0 := by omega
              rw [a1]
              exact ⟨rfl, rfl⟩
            · rw [e9]; exact hJ.step T (by rw [reqL_dueN, a1]; exact (by decide : (1 : Nat) ≤ 8))
            · rcases h2 with ⟨h2, _⟩ | ⟨_, rfl⟩
              · omega
              · exact ⟨a3, by omega⟩
        have HST := Lib.hid (fun (wz : World) (Zz : Nat → Prop) (z0 : ∀ g, Zz g → g < wz.heap.size) (z1 : FdAt Zz wz f d) => step_z2 Zz f d P r kn _ T hJ (by omega) (by omega) (by omega) (by omega) wz z0 z1)
        rw [hml, hmd, hmc.1] at HST
        have HMQ := Lib.hid (And.intro hmJ (And.intro hmQ hmc.2))
        clear hQ hJ hI HI hml hmd hmc hmJ hmQ
        go_wp2_with fail
        refine (HST.out _ Z (fun x hx => (HI2.out.zz x hx).2) HI2.out.fd).mono ?_
        rintro e w6 ⟨A, c, rfl, e1, e2, e3⟩
        have H6 := Lib.hid (And.intro (HI2.out.on e2 e3 (fun x hx => hx.1)) e1)
        clear e1 e2 e3 HI2 HST
        go_wp2
        go_loopw [14, 66] (fun v14 v66 wi => ∃ (i : Nat) (L2 : Int), v14 = .int .i64 L2 ∧ v66 = .int .i64 i ∧ i ≤ m ∧ 0 ≤ L2 ∧ L2 ≤ T ∧ Hid (((i = 0 ∧ L2 = L) ∨ (i = 1 ∧ L2 = T)) ∧ Below w6.heap.size w6 wi)) (fun _ v _ => m - (intOf v).toNat)
        case atStart => exact ⟨0, L, rfl, rfl, Nat.zero_le _, hL0, hLT, Lib.hid ⟨.inl ⟨rfl, rfl⟩, Below.refl _ _⟩⟩
        case round =>
          obtain ⟨i, L2, rfl, rfl, him, hL20, hL2T, HK⟩ := hrel
          by_cases him2 : i < m
          · obtain rfl : i = 0 := by omega
            obtain ⟨gq, cap, eA, hgw, hgl⟩ := H6.out.2.form (by omega)
            injection eA with eA1 eA2 eA3
            subst eA1 eA3
            have hcell : ∀ j u, cells[j]? = some u → wr.cell? ⟨gq, j, none⟩ = some u := fun j u hu => by
              obtain ⟨g', o', e1, -, h7, -, -, h8⟩ := (Sho.own H6.out.2).place (by omega)
              injection e1 with e1
              injection e1 with e1 e2
              subst e1 e2
              have := h8 j u hu
              rw [Nat.zero_add] at this
              exact (HK.out.2.cell (p := ⟨gq, j, none⟩) h7).trans this
            have p0 := hcell (0 * 2) _ (HMQ.out.2.2 0 him2).1
            have p1 := hcell (0 * 2 + 1) _ (HMQ.out.2.2 0 him2).2
            simp only [Nat.zero_mul, Nat.zero_add] at p0 p1
            have hgq : gq < wr.heap.size := World.block_lt_of_cell? wr _ p0
            have HB := Lib.hid HK.out.2
            clear hcell HK
            rw [show ((0 : Nat) : Int) = 0 from rfl]
            go_wp2
            go_roundw
            case rel => exact ⟨1, T, rfl, rfl, by omega, hT0, Int.le_refl _, Lib.hid ⟨.inr ⟨rfl, rfl⟩, HB.out.trans ((Below.refl wr.heap.size wr).alloc (Nat.le_refl _) _ |>.mono HB.out.size)⟩⟩
            case measure => simp [intOf]; omega
          · obtain rfl : i = m := by omega
            obtain ⟨hA1, hA2⟩ := HMQ.out.2.1 L2 HK.out.1
            have HN := Lib.hid (And.intro hA1 (H6.out.1.quiet HK.out.2))
            have hgt : decide (8 * r < T - L2) = false := by rw [decide_eq_false_iff_not]; omega
            clear hA1 HK
            go_wp2
            go_roundw
            case rel => exact ⟨L2, T + 1, d', rfl, rfl, by omega, by omega, hL20, by omega, Lib.hid ⟨.inr ⟨by omega, HN.out.1, HMQ.out.1⟩, _, HN.out.2⟩⟩
            case measure => simp [intOf]; omega
    · obtain rfl : T = 200 := by omega
      obtain ⟨hQ, hJ⟩ : AskQ P ⟨⟨4, root⟩, ⟨ix, Ps, Qs⟩⟩ r kn q 200 L d ∧ FdJ d P r kn 201 := by
        rcases HI.out.1 with ⟨h1, _, _⟩ | ⟨_, h1, h2⟩
        · exact absurd h1 (by decide)
        · exact ⟨h1, h2⟩
      obtain ⟨Z, hI⟩ := HI.out.2
      have HI2 := Lib.hid hI
      have HD1 := Lib.hid (fun (wz : World) (z : FdAt Z wz f d) => done_none Z f d hQ.en hQ.dn wz z)
      obtain ⟨T9, hT9, hw9⟩ := hQ.wt
      have HRP := Lib.hid (fun (wz : World) (v : Value) (z0 : ∀ g, Z g → g < wz.heap.size) (z1 : FdAt Z wz f d) (z2 : CgV wz v (cg q)) => reply_z0 Z f d P r kn 201 q v (cg q) 0 200 hJ (by omega) (by decide) HSP.out (HCG.out q hqk).2.1 (HCG.out q hqk).2.2 hQ.has hqk (by rw [hw9]) (by rw [hQ.cur]; exact (HCG.out q hqk).1) (by have := hQ.kl; omega) wz z1 z2 z0)
      obtain ⟨he1, he2, he3, he4, he5⟩ := ask_end hQ (by rw [hJ.pol]; exact HPP.out.2.2) (cg q) 1073741824
      have hJ2 := hJ.keepD q (cg q)
      have HD2 := Lib.hid (fun (wz : World) (Zz : Nat → Prop) (z : FdAt Zz wz f (keepD d q (cg q))) => done_some Zz f (keepD d q (cg q)) ⟨⟨4, root⟩, ⟨ix, Ps, Qs⟩⟩ he1 kn (by rw [he2]; exact he3) (by omega) (by omega) (fun g hg => by
        rw [he2] at hg
        rcases List.mem_append.1 hg with hg | hg
        · exact hQ.ks g hg
        · rw [List.mem_singleton.1 hg]; exact HCS.out q) (by have := HCK.out.2.2.1; exact Nat.le_trans this (by decide)) HCK.out.2.1 wz z)
      have HST := Lib.hid (fun (wz : World) (Zz : Nat → Prop) (z0 : ∀ g, Zz g → g < wz.heap.size) (z1 : FdAt Zz wz f (keepD d q (cg q))) => step_z2 Zz f _ P r kn _ 1073741824 hJ2 (by omega) (by decide) (by omega) (by decide) wz z0 z1)
      rw [he5] at HST
      clear hI HI hQ hJ hJ2 hT9 hw9 he1 he2 he3 he4 he5 hT0 hT2 hL0 hLT
      generalize keepD d q (cg q) = dK at *
      go_wp2_with fail
      refine (HD1.out _ HI2.out.fd).mono ?_
      rintro e w6 ⟨R6, rn6, rc6, P6, pn6, pc6, Q6, qn6, qc6, A6, c6, rfl, k5⟩
      have hal6 := (Below.refl w6.heap.size w6).alloc (Nat.le_refl _) (.cells #[.int .i64 0, .slice R6 rn6 rc6, .int .i64 0, .slice P6 pn6 pc6, .slice Q6 qn6 qc6] 40)
      have hq6 := (HI2.out.quiet k5).quiet hal6
      have H6 := Lib.hid hq6
      have c0 := hq6.bs.cell 0 _ rfl
      have c1' := hq6.bs.cell 1 _ rfl
      have hlb := hq6.bs.lt
      clear k5 hal6 hq6 HI2
      go_wp2_with fail
      refine (HCO.out q hqk S g o c1 _ _ H6.out.own H6.out.in ⟨_, rfl, by obtain ⟨r9, p9, q9, e9, z1, z2, z3⟩ := H6.out.tx; injection e9 with e9; injection e9 with e9; injection e9 with _ e9; injection e9 with e9 _; rw [e9]; exact z1.1⟩).mono ?_
      rintro e w7 ⟨v7, rfl, ⟨p7, q7, rfl, z1, z2⟩, h7⟩
      obtain ⟨P7, cp7, rfl⟩ := z1.form
      obtain ⟨Q7, cq7, rfl⟩ := z2.form
      have H7 := Lib.hid (And.intro (H6.out.quiet h7) (show CgV w7 (.agg #[.int .i64 (cg q).wit, .int .i64 (cg q).sig.index, .slice P7 (cg q).sig.parts.length cp7, .slice Q7 (cg q).sig.path.length cq7]) (cg q) from ⟨_, _, rfl, z1, z2⟩))
      clear z1 z2 h7 c0 c1' hlb H6
      go_wp2_with fail
      refine (HRP.out _ _ (fun x hx => (H7.out.1.zz x hx).2) H7.out.1.fd H7.out.2).mono ?_
      rintro e w8 ⟨rfl, m1, m2⟩
      have H8 := Lib.hid (H7.out.1.on m1 m2 (fun x hx => hx))
      clear m1 m2 H7
      go_wp2_with fail
      refine (HD2.out _ _ H8.out.fd).mono ?_
      rintro e w9 ⟨R9, rc9, P9, pc9, Q9, qc9, A9, c9, rfl, k1, k2, k3⟩
      have hal9 := (Below.refl w9.heap.size w9).alloc (Nat.le_refl _) (.cells #[.int .i64 4, .slice R9 root.length rc9, .int .i64 ix, .slice P9 Ps.length pc9, .slice Q9 Qs.length qc9] 40)
      have hq9 := (H8.out.quiet k3).quiet hal9
      have H9 := Lib.hid (And.intro hq9 (SgV.below k1 hal9))
      have c0 := hq9.bs.cell 0 _ rfl
      have c1' := hq9.bs.cell 1 _ rfl
      have c2 := hq9.bs.cell 2 _ rfl
      have c3 := hq9.bs.cell 3 _ rfl
      have c4 := hq9.bs.cell 4 _ rfl
      have hlb := hq9.bs.lt
      clear k1 k2 k3 hal9 hq9 H8
      go_wp2_with fail
      refine (equal_same _ _ ⟨⟨4, root⟩, ⟨ix, Ps, Qs⟩⟩ HCK.out.2.1 HSZ.out.1 HSZ.out.2 _ H9.out.2 H9.out.1.tx.sgv).mono ?_
      rintro e w10 ⟨rfl, h⟩
      have H10 := Lib.hid (H9.out.1.quiet h)
      clear h c0 c1' c2 c3 c4 hlb H9
      go_wp2_with fail
      refine (HST.out _ _ (fun x hx => (H10.out.zz x hx).2) H10.out.fd).mono ?_
      rintro e w11 ⟨A11, c11, rfl, -, m1, m2⟩
      have H11 := Lib.hid (H10.out.on m1 m2 (fun x hx => hx.1))
      clear m1 m2 H10
      go_wp2_with fail
      refine (known_any _).mono ?_
      rintro e w12 ⟨rfl, h⟩
      have H12 := Lib.hid (H11.out.below.trans (h.mono H11.out.below.size))
      clear h
      go_wp2
      go_ret
      exact ⟨rfl, H12.out⟩
end Go.Proofs.Ytlkgeifmppadmaa
namespace Go.Proofs.Ytlkgeifmppadmaa.RowWords
open Go.ChangeShapes Go.WideShapes Go.ChangeAt Go.RowKit Go.Joins Go.Deep
set_option linter.unusedVariables false
theorem own : ownKnob Try.prog.godebug = none := by kernel_rfl
theorem laidOut : laidOutB Try.prog = true := by kernel_rfl
section
variable {H : Type} {enc : TypeId × Value → H} {w : World} {base : Nat} {spare : Nat → Bool} {held : Bool}
theorem args_ints {A : Option Addr} {len cap : Nat} {d : DataW H} {p : List MemPlace} (h : DataW.Trod enc Try.prog w base spare held 22 (.slice A len cap) d p) : ∃ xs : List Int, xs.length = len ∧ ArgInts w A xs := by
  obtain ⟨fuel, hf⟩ := h
  rcases open_ints Try.underlying22 Try.underlying3 (by kernel_rfl) hf with ⟨hcs, _⟩ | ⟨x, l, c, zs, hcs, _, hl, hm, hz, _, hcell, hwz⟩
  · simp [Value.cells] at hcs
    obtain ⟨rfl, rfl, rfl⟩ := hcs
    exact ⟨[], rfl, fun k hk => absurd hk (Nat.not_lt_zero _)⟩
  · simp [Value.cells] at hcs
    obtain ⟨rfl, rfl, rfl⟩ := hcs
    have hle : len ≤ zs.length := by
      have hz' := hz
      split at hz'
      · rw [hz']; exact hl
      · rw [hz']; exact Nat.le_refl _
    refine ⟨zs.take len, by rw [List.length_take]; omega, fun k hk => ?_⟩
    rw [List.length_take] at hk
    obtain ⟨b, off, rfl, hc⟩ := ints_at hcell (by omega)
    have h2 := hc k (by omega)
    refine ⟨b, off, rfl, World.block_lt_of_cell? w _ h2, ?_⟩
    rw [h2, List.getElem_take, List.getD_eq_getElem?_getD, List.getElem?_eq_getElem (by omega)]
    rfl
end
end Go.Proofs.Ytlkgeifmppadmaa.RowWords
namespace Go.Proofs.Ytlkgeifmppadmaa.feederAsks
open Go.ChangeShapes Go.WideShapes Go.ChangeAt Go.RowKit Go.Joins Go.Deep
open Go.Proofs.Ytlkgeifmppadmaa.RowWords
set_option linter.unusedVariables false
set_option linter.unusedSimpArgs false


set_option maxRecDepth 100000 in
theorem lifted (os : Os) (started : os.Started) (H : Type) (enc : TypeId × Value → H) :
    ReturnsInHanded {} Try.checked os 5 .any (Rows.feederAsksSpec.pre6 enc Try.prog Try.f5 Rows.feederAsksRow.domain false) (Rows.feederAsksSpec.post enc Try.prog Try.f5 false true false false) := by
  refine returnsInHanded_of_change_sized (C := Try.checked) own started (by kernel_rfl) Try.func5
    (ChangeSpec.witness6 (enc := enc) (C := Try.checked) false ⟨#[], #[.int .i64 0, .int .i64 0, .int .i64 0], []⟩ 8 (by kernel_rfl) (by kernel_rfl) (by kernel_rfl) (by kernel_rfl)) ?_
  intro W base args ds gs before hval0 hW hcnd hsz0 _
  have hval : ∀ (j : Nat) t v, Try.f5.params[j]? = some t → args[j]? = some v → Value.okWide Try.prog W .any base t v := hval0
  have hW' := hW
  obtain ⟨p, q, hA0, hV, rfl, hfz, hnd⟩ := hW
  have hA : DataW.TrodAll enc Try.prog W 0 (fun _ => true) true Try.f5.params.toList args.toList ds p := hA0
  rw [Try.params5] at hA hval
  obtain ⟨v0, vs0, d0, ds0, p0, q0, hargs, rfl, rfl, h0, r0⟩ := trodAll_cons hA
  obtain ⟨v1, vs1, d1, ds1, p1, q1, rfl, rfl, rfl, h1, r1⟩ := trodAll_cons r0
  obtain ⟨v2, vs2, d2, ds2, p2, q2, rfl, rfl, rfl, h2, r2⟩ := trodAll_cons r1
  obtain ⟨rfl, rfl, rfl⟩ := trodAll_nil r2
  obtain rfl : args = #[v0, v1, v2] := by cases args; simp_all
  obtain ⟨rfl, rfl⟩ := trodVars_none hV
  obtain ⟨a0, rfl, rfl, rfl, w0⟩ := open_int Try.underlying3 (hval 0 3 v0 rfl rfl) h0
  obtain ⟨a1, rfl, rfl, rfl, w1⟩ := open_int Try.underlying3 (hval 1 3 v1 rfl rfl) h1
  obtain ⟨a2, rfl, rfl, rfl, w2⟩ := open_int Try.underlying3 (hval 2 3 v2 rfl rfl) h2
  clear hA0 hval0 hsz0
  refine (asks_any a0 a1 a2 W ).mono fun e W' ⟨he, bel⟩ => ?_
  subst he
  exact ⟨_, rfl, _, _, _, [], _, [], hW', trodAll_mk1 (shut_bool Try.underlying4 _), (trodAll_cons_mk (shut_int Try.underlying3 w0) (trodAll_cons_mk (shut_int Try.underlying3 w1) (trodAll_cons_mk (shut_int Try.underlying3 w2) trodAll_mk0))), rfl, bel.frame _, fun h => by cases h⟩
theorem over : Rows.feederAsksRow.holds Try.pinned (OpenSpec.ofChange Rows.feederAsksSpec) :=
  OpenClaim.holds_of_wide 5 Try.f5 rfl rfl rfl rfl rfl rfl rfl ⟨rfl, rfl, rfl, rfl, rfl⟩ rfl rfl rfl rfl rfl (by kernel_rfl) Try.func5 (by kernel_rfl)
    (of_decide_eq_true (by kernel_rfl)) (by unfold Func.isWrapper; first | (rw [if_pos (by decide +kernel)]; kernel_rfl) | (rw [if_neg (by decide +kernel)]; exact ⟨rfl, rfl⟩))
    (fun os started H enc _ => lifted os started H enc)
theorem proved : Rows.FeederAsksSaid := over
end Go.Proofs.Ytlkgeifmppadmaa.feederAsks
namespace Go.Proofs.Ytlkgeifmppadmaa
/-- The row, under a short name, for the claim. -/
theorem feederAsks_holds : Rows.FeederAsksSaid := feederAsks.proved
end Go.Proofs.Ytlkgeifmppadmaa
