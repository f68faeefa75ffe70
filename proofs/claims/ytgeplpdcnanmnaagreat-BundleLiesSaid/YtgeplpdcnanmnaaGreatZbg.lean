/- The reference's Reader. Conditions: as each theorem states them. -/
import Derived.Test.YtgeplpdcnanmnaaGreatZah
import Derived.Test.YtgeplpdcnanmnaaGreatZbc
import Derived.Test.YtgeplpdcnanmnaaGreatZbe
import Derived.Test.YtgeplpdcnanmnaaGreatZaa
import Derived.Test.YtgeplpdcnanmnaaGreatZay
import Derived.Deep.DeepCutAuto
namespace Go.Proofs.YtgeplpdcnanmnaaGreat
open Go.RowKit
set_option linter.unusedVariables false
set_option linter.unusedSimpArgs false

def RrC (r : RdD) (L : List UInt8) (at' : Nat) (bad : Bool) : Prop := bad = r.bad ∧ at' ≤ L.length ∧ L.length ≤ 1000000000 ∧ (bad = false → r.l = L.drop at') ∧ (bad = true → r.l = [])
def RrW (D : Nat → Prop) (w : World) (b : Nat) (r : RdD) : Prop := ∃ v L at', Blk w b 113 [v, .int .i64 ((at' : Nat) : Int), .bool r.bad] ∧ BysF D w v L ∧ ¬ D b ∧ RrC r L at' r.bad
theorem RrW.chg {D T : Nat → Prop} {w w1 : World} {b : Nat} {r : RdD} (h : RrW D w b r) (hc : Chg w w1 T) (hD : ∀ g, D g → ¬ T g) (hb : ¬ T b) : RrW D w1 b r := by
 obtain ⟨v, L, a, h1, h2, h3, h4⟩ := h
 exact ⟨v, L, a, h1.chg hc hb, h2.chg hc hD, h3, h4⟩
theorem RrW.below {D : Nat → Prop} {w w1 : World} {b : Nat} {r : RdD} (h : RrW D w b r) (hb : Below w.heap.size w w1) : RrW D w1 b r := h.chg (Chg.of_below (S := fun _ => False) hb) (fun _ _ h => h) (fun h => h)
theorem RrW.lt {D : Nat → Prop} {w : World} {b : Nat} {r : RdD} (h : RrW D w b r) : b < w.heap.size := by
 obtain ⟨v, L, a, h1, h2, h3, h4⟩ := h
 exact h1.lt
theorem rr_bad {r : RdD} {L : List UInt8} {at' : Nat} {n : Int} (h : RrC r L at' r.bad) (hn : rtakB r n = false) : RrC (rtakN r n) L at' true := by
 rw [(rtak_short hn).2]
 exact ⟨rfl, h.2.1, h.2.2.1, fun e => absurd e (by decide), fun _ => rfl⟩
theorem rtak_goodN (l : List UInt8) (k : Nat) (h : k ≤ l.length) : rtakV ⟨l, false⟩ (k : Int) = l.take k ∧ rtakN ⟨l, false⟩ (k : Int) = ⟨l.drop k, false⟩ := by
 have e : rtakB ⟨l, false⟩ (k : Int) = true := by unfold rtakB; simp; omega
 unfold rtakV rtakN
 rw [if_pos e, if_pos e, Int.toNat_natCast]
 exact ⟨rfl, rfl⟩
theorem rr_good {r : RdD} {L : List UInt8} {at' k : Nat} (h : RrC r L at' false) (hk : at' + k ≤ L.length) : RrC (rtakN r (k : Int)) L (at' + k) false ∧ rtakV r (k : Int) = (L.drop at').take k := by
 obtain ⟨l, b⟩ := r
 obtain ⟨h1, h2, h3, h4, h5⟩ := h
 have hb : b = false := h1.symm
 subst hb
 have hl : l = L.drop at' := h4 rfl
 subst hl
 have e := rtak_goodN (L.drop at') k (by rw [List.length_drop]; omega)
 rw [e.1, e.2, List.drop_drop]
 exact ⟨⟨rfl, hk, h3, fun _ => by rfl, fun e => absurd e (by decide)⟩, rfl⟩
theorem news_slice {w : World} {A : Option Addr} {n c : Nat} {L : List UInt8} (h : Bys w (.slice A n c) L) (a k : Nat) (hk : a + k ≤ L.length) : NewsOf w (.slice (if c = a then A else Option.map (fun x => x.add a) A) k (c - a)) k 1 (bys ((L.drop a).take k)) := by
 refine ⟨by rw [bys_length, List.length_take, List.length_drop]; omega, bys_one _, _, _, rfl, ?_⟩
 rcases Nat.eq_zero_or_pos k with h0 | h0
 ·exact .inl h0
 ·obtain ⟨g, o, rfl, e1, hg, hc, hm, hcell⟩ := h.place (by omega)
  refine .inr ⟨(⟨g, o, none⟩ : Addr).add a, by rw [if_neg (by omega)]; rfl, fun j u hj => ?_⟩
  have hj' : j < k := by
   have := (List.getElem?_eq_some_iff.1 hj).1
   rw [bys_length, List.length_take] at this
   omega
  have hl : j < ((L.drop a).take k).length := by rw [List.length_take, List.length_drop]; omega
  rw [bys_at _ j hl] at hj
  obtain rfl := Option.some.inj hj
  have e2 : ((L.drop a).take k)[j] = L[a + j]'(by omega) := by simp [List.getElem_take, List.getElem_drop]
  rw [e2, Go.WideShapes.add_plain, Go.WideShapes.add_plain, Nat.add_assoc]
  exact hcell (a + j) (by omega)
theorem Bys.cap {w : World} {A : Option Addr} {n c : Nat} {L : List UInt8} (h : Bys w (.slice A n c) L) (h0 : 0 < L.length) : L.length ≤ c := by
 obtain ⟨g, o, rfl, e1, hg, hc, hm, hcell⟩ := h.place h0
 exact hc
set_option maxRecDepth 100000 in
set_option maxHeartbeats 8000000 in
theorem rraw_any (D : Nat → Prop) (b : Nat) (r : RdD) (n : Int) (hn9 : -1000000000000 ≤ n ∧ n ≤ 1000000000000) (w : World) (h : RrW D w b r) :
  Calls Tryz.prog 62 #[.pointer (some ⟨b, 0, none⟩), .int .i64 n] w fun e w' => ∃ v, e = .returned v ∧ OwnB w' w.heap.size v (rtakV r n) ∧ RrW D w' b (rtakN r n) ∧ Chg w w' (fun k => k = b) := by
 obtain ⟨i0, hi0, hz0, hz1, hz2⟩ := info_parts info_u8
 obtain ⟨v, L, a, h1, h2, h3, h4⟩ := h
 obtain ⟨A, c, rfl⟩ := h2.1.form
 have hLl := h4.2.2.1
 have haL := h4.2.1
 have HC := Lib.hid h4
 have HX := Lib.hid (And.intro h1 (And.intro h2 h3))
 have HB := Lib.hid (fun (e : rtakB r n = false) => (rtak_short e).1)
 have HBD := Lib.hid (fun (e : rtakB r n = false) => rr_bad h4 e)
 have HRB : Hid (rtakB r n = (!r.bad && (decide (0 ≤ n) && decide (n ≤ (r.l.length : Int))))) := Lib.hid rfl
 clear h1 h2 h3 h4
 generalize hbd : r.bad = bad at *
 have HBE := Lib.hid hbd
 clear hbd
 have HS1 : Hid (rtakB r n = false → ∃ v, Ending.returned (.slice none 0 0) = .returned v ∧ OwnB (w.drew.setCell ⟨b, 2, none⟩ (.bool true)) w.heap.size v (rtakV r n) ∧ RrW D (w.drew.setCell ⟨b, 2, none⟩ (.bool true)) b (rtakN r n) ∧ Chg w (w.drew.setCell ⟨b, 2, none⟩ (.bool true)) (fun k => k = b)) := Lib.hid (fun e => by
  have hc : Chg w (w.drew.setCell ⟨b, 2, none⟩ (.bool true)) (fun k => k = b) := chg_cell (Chg.refl w _).drew 2 _
  refine ⟨_, rfl, by rw [HB.out e]; exact World.ownsRow_nil _ _ _ _, ?_, hc⟩
  refine ⟨_, L, a, ?_, HX.out.2.1.chg hc (fun g hg e => HX.out.2.2 (by rw [← (show g = b from e)]; exact hg)), HX.out.2.2, ?_⟩
  ·have := (HX.out.1.drew).set 2 (.bool true) (by simp)
   rw [show (rtakN r n).bad = true from by rw [(rtak_short e).2]]
   exact this
  ·rw [show (rtakN r n).bad = true from by rw [(rtak_short e).2]]
   exact HBD.out e)
 have z0 := HX.out.1.drew.cell 0 _ rfl
 have z1 := HX.out.1.drew.cell 1 _ rfl
 have z2 := HX.out.1.drew.cell 2 _ rfl
 have f2 := HX.out.1.drew.free 2
 have f1 := HX.out.1.drew.free 1
 go_enter Tryz.func62, Tryz.ntmps62
 go_upto_region 1 with fail
 cases bad with
 | true =>
  have HR : Hid (rtakB r n = false) := Lib.hid (by rw [HRB.out]; rfl)
  refine wp_region_held_drew (S := fun w' => w'.cell? ⟨b, 0, none⟩ = some (.slice A L.length c) ∧ w'.cell? ⟨b, 1, none⟩ = some (.int .i64 ((a : Nat) : Int)) ∧ w'.cell? ⟨b, 2, none⟩ = some (.bool true)) (by kernel_rfl) ⟨z0, z1, z2⟩ (fun hHeld => ?_)
  refine ty 0 5 rfl rfl ?_; simp only [sa, sb, sc]
  refine ty 1 6 rfl rfl ?_; simp only [sa, sb, sc]
  refine ty 2 7 rfl rfl ?_; simp only [sa, sb, sc]
  refine ty 3 8 rfl rfl ?_; simp only [sa, sb, sc]
  refine ty 4 9 rfl rfl ?_; simp only [sa, sb, sc]
  refine tn 5 10 rfl rfl ?_; simp only [sa, sb, sc]
  refine tn 6 11 rfl rfl ?_; simp only [sa, sb, sc]
  refine ty 7 12 rfl rfl ?_; simp only [sa, sb, sc]
  refine ty 8 13 rfl rfl ?_; simp only [sa, sb, sc]
  refine tn 9 14 rfl rfl ?_; simp only [sa, sb, sc]
  refine tn 10 15 rfl rfl ?_; simp only [sa, sb, sc]
  refine tn 11 16 rfl rfl ?_; simp only [sa, sb, sc]
  refine tn 12 17 rfl rfl ?_; simp only [sa, sb, sc]
  refine tn 13 18 rfl rfl ?_; simp only [sa, sb, sc]
  refine tn 14 19 rfl rfl ?_; simp only [sa, sb, sc]
  refine tn 15 20 rfl rfl ?_; simp only [sa, sb, sc]
  refine tn 16 21 rfl rfl ?_; simp only [sa, sb, sc]
  refine tn 17 22 rfl rfl ?_; simp only [sa, sb, sc]
  refine tn 18 23 rfl rfl ?_; simp only [sa, sb, sc]
  refine tn 19 24 rfl rfl ?_; simp only [sa, sb, sc]
  refine tn 20 25 rfl rfl ?_; simp only [sa, sb, sc]
  refine ty 21 26 rfl rfl ?_; simp only [sa, sb, sc]
  refine wpAnyH_done (by kernel_rfl) ?_ _
  clear hHeld
  go_wp2
  go_ret
  exact HS1.out HR.out
 | false =>
  by_cases hn : n < 0
  ·have HR : Hid (rtakB r n = false) := Lib.hid (by rw [HRB.out, decide_eq_false (show ¬ 0 ≤ n by omega)]; rfl)
   refine wp_region_held_drew (S := fun w' => w'.cell? ⟨b, 0, none⟩ = some (.slice A L.length c) ∧ w'.cell? ⟨b, 1, none⟩ = some (.int .i64 ((a : Nat) : Int)) ∧ w'.cell? ⟨b, 2, none⟩ = some (.bool false)) (by kernel_rfl) ⟨z0, z1, z2⟩ (fun hHeld => ?_)
   refine ty 0 5 rfl rfl ?_; simp only [sa, sb, sc]
   refine ty 1 6 rfl rfl ?_; simp only [sa, sb, sc]
   refine ty 2 7 rfl rfl ?_; simp only [sa, sb, sc]
   refine ty 3 8 rfl rfl ?_; simp only [sa, sb, sc]
   refine ty 4 9 rfl rfl ?_; simp only [sa, sb, sc]
   refine ty 5 10 rfl rfl ?_; simp only [sa, sb, sc]
   refine ty 6 11 rfl rfl ?_; simp only [sa, sb, sc]
   refine ty 7 12 rfl rfl ?_; simp only [sa, sb, sc]
   refine ty 8 13 rfl rfl ?_; simp only [sa, sb, sc]
   refine tn 9 14 rfl rfl ?_; simp only [sa, sb, sc]
   refine tn 10 15 rfl rfl ?_; simp only [sa, sb, sc]
   refine tn 11 16 rfl rfl ?_; simp only [sa, sb, sc]
   refine tn 12 17 rfl rfl ?_; simp only [sa, sb, sc]
   refine tn 13 18 rfl rfl ?_; simp only [sa, sb, sc]
   refine tn 14 19 rfl rfl ?_; simp only [sa, sb, sc]
   refine tn 15 20 rfl rfl ?_; simp only [sa, sb, sc]
   refine tn 16 21 rfl rfl ?_; simp only [sa, sb, sc]
   refine tn 17 22 rfl rfl ?_; simp only [sa, sb, sc]
   refine tn 18 23 rfl rfl ?_; simp only [sa, sb, sc]
   refine tn 19 24 rfl rfl ?_; simp only [sa, sb, sc]
   refine tn 20 25 rfl rfl ?_; simp only [sa, sb, sc]
   refine ty 21 26 rfl rfl ?_; simp only [sa, sb, sc]
   refine wpAnyH_done (by kernel_rfl) ?_ _
   clear hHeld
   go_wp2
   go_ret
   exact HS1.out HR.out
  ·obtain ⟨k, rfl⟩ := Int.eq_ofNat_of_zero_le (show 0 ≤ n by omega)
   have hrl : r.l.length = L.length - a := by rw [HC.out.2.2.2.1 rfl, List.length_drop]
   have hw1 : wrap64 ((L.length : Int) - (a : Int)) = (L.length : Int) - (a : Int) := IntWalk.wrap64_in _ (by omega)
   have hw2 : IntKind.wrap .i64 ((L.length : Int) - (a : Int)) = (L.length : Int) - (a : Int) := IntWalk.i64_in _ (by omega)
   by_cases hlt : L.length - a < k
   ·have HR : Hid (rtakB r (k : Int) = false) := Lib.hid (by rw [HRB.out, hrl, decide_eq_false (show ¬ (k : Int) ≤ ((L.length - a : Nat) : Int) by omega)]; simp)
    have hlt2 : (L.length : Int) - (a : Int) < (k : Int) := by omega
    clear hrl
    refine wp_region_held_drew (S := fun w' => w'.cell? ⟨b, 0, none⟩ = some (.slice A L.length c) ∧ w'.cell? ⟨b, 1, none⟩ = some (.int .i64 ((a : Nat) : Int)) ∧ w'.cell? ⟨b, 2, none⟩ = some (.bool false)) (by kernel_rfl) ⟨z0, z1, z2⟩ (fun hHeld => ?_)
    refine ty 0 5 rfl rfl ?_; simp only [sa, sb, sc]
    refine ty 1 6 rfl rfl ?_; simp only [sa, sb, sc]
    refine ty 2 7 rfl rfl ?_; simp only [sa, sb, sc]
    refine ty 3 8 rfl rfl ?_; simp only [sa, sb, sc]
    refine ty 4 9 rfl rfl ?_; simp only [sa, sb, sc]
    refine ty 5 10 rfl rfl ?_; simp only [sa, sb, sc]
    refine ty 6 11 rfl rfl ?_; simp only [sa, sb, sc]
    refine ty 7 12 rfl rfl ?_; simp only [sa, sb, sc]
    refine ty 8 13 rfl rfl ?_; simp only [sa, sb, sc]
    refine ty 9 14 rfl rfl ?_; simp only [sa, sb, sc]
    refine ty 10 15 rfl rfl ?_; simp only [sa, sb, sc]
    refine ty 11 16 rfl rfl ?_; simp only [sa, sb, sc]
    refine ty 12 17 rfl rfl ?_; simp only [sa, sb, sc]
    refine ty 13 18 rfl rfl ?_; simp only [sa, sb, sc]
    refine ty 14 19 rfl rfl ?_; simp only [sa, sb, sc]
    refine ty 15 20 rfl rfl ?_; simp only [sa, sb, sc]
    refine ty 16 21 rfl rfl ?_; simp only [sa, sb, sc]
    refine ty 17 22 rfl rfl ?_; simp only [sa, sb, sc]
    refine ty 18 23 rfl rfl ?_; simp only [sa, sb, sc]
    refine ty 19 24 rfl rfl ?_; simp only [sa, sb, sc]
    refine ty 20 25 rfl rfl ?_; simp only [sa, sb, sc]
    refine ty 21 26 rfl rfl ?_; simp only [sa, sb, sc]
    refine wpAnyH_done (by kernel_rfl) ?_ _
    clear hHeld
    go_wp2
    go_ret
    exact HS1.out HR.out
   ·have hlt2 : ¬ (L.length : Int) - (a : Int) < (k : Int) := by omega
    have hw3 : wrap64 ((a : Int) + (k : Int)) = ((a + k : Nat) : Int) := by rw [IntWalk.wrap64_in _ (by omega)]; omega
    have hw4 : IntKind.wrap .i64 (a : Int) = (a : Int) := IntWalk.i64_in _ (by omega)
    clear hrl
    refine wp_region_held_drew (S := fun w' => w'.cell? ⟨b, 0, none⟩ = some (.slice A L.length c) ∧ w'.cell? ⟨b, 1, none⟩ = some (.int .i64 ((a : Nat) : Int)) ∧ w'.cell? ⟨b, 2, none⟩ = some (.bool false)) (by kernel_rfl) ⟨z0, z1, z2⟩ (fun hHeld => ?_)
    refine ty 0 5 rfl rfl ?_; simp only [sa, sb, sc]
    refine ty 1 6 rfl rfl ?_; simp only [sa, sb, sc]
    refine ty 2 7 rfl rfl ?_; simp only [sa, sb, sc]
    refine ty 3 8 rfl rfl ?_; simp only [sa, sb, sc]
    refine ty 4 9 rfl rfl ?_; simp only [sa, sb, sc]
    refine ty 5 10 rfl rfl ?_; simp only [sa, sb, sc]
    refine ty 6 11 rfl rfl ?_; simp only [sa, sb, sc]
    refine ty 7 12 rfl rfl ?_; simp only [sa, sb, sc]
    refine ty 8 13 rfl rfl ?_; simp only [sa, sb, sc]
    refine ty 9 14 rfl rfl ?_; simp only [sa, sb, sc]
    refine ty 10 15 rfl rfl ?_; simp only [sa, sb, sc]
    refine ty 11 16 rfl rfl ?_; simp only [sa, sb, sc]
    refine ty 12 17 rfl rfl ?_; simp only [sa, sb, sc]
    refine ty 13 18 rfl rfl ?_; simp only [sa, sb, sc]
    refine ty 14 19 rfl rfl ?_; simp only [sa, sb, sc]
    refine ty 15 20 rfl rfl ?_; simp only [sa, sb, sc]
    refine ty 16 21 rfl rfl ?_; simp only [sa, sb, sc]
    refine ty 17 22 rfl rfl ?_; simp only [sa, sb, sc]
    refine ty 18 23 rfl rfl ?_; simp only [sa, sb, sc]
    refine ty 19 24 rfl rfl ?_; simp only [sa, sb, sc]
    refine ty 20 25 rfl rfl ?_; simp only [sa, sb, sc]
    refine ty 21 26 rfl rfl ?_; simp only [sa, sb, sc]
    refine wpAnyH_done (by kernel_rfl) ?_ _
    clear hHeld
    go_upto_region 5 with fail
    have hc : Chg w (w.drew.setCell ⟨b, 1, none⟩ (.int .i64 ((a + k : Nat) : Int))) (fun k => k = b) := chg_cell (Chg.refl w _).drew 1 _
    have kB := (HX.out.1.drew).set 1 (.int .i64 ((a + k : Nat) : Int)) (by simp)
    have kX := HX.out.2.1.chg hc (fun g hg e => HX.out.2.2 (by rw [← (show g = b from e)]; exact hg))
    have hak : a + k ≤ L.length := by omega
    have hac : a + k ≤ c := by
     rcases Nat.eq_zero_or_pos L.length with e | e
     ·omega
     ·have := HX.out.2.1.1.cap e; omega
    have ht1 : ((a : Int) + (k : Int)).toNat = a + k := by omega
    have ha0 : (0 : Int) ≤ (a : Int) + (k : Int) := by omega
    have ha1 : (a : Int) + (k : Int) ≤ (c : Int) := by omega
    have ha2 : (a : Int) ≤ max ((a : Int) + (k : Int)) 0 := by omega
    have HG := Lib.hid (rr_good (k := k) (by have := HC.out; exact this) hak)
    refine code_at (fun w2 => Chg w w2 (fun k => k = b) ∧ Blk w2 b 113 [.slice A L.length c, .int .i64 ((a + k : Nat) : Int), .bool false] ∧ BysF D w2 (.slice A L.length c) L) ⟨hc, kB, kX⟩ ?_
    clear z0 z1 z2 f1 f2 hc kB kX hw1 hw2 hw3 hlt hlt2 HS1 HB HBD HRB
    rintro w2 ⟨hc, kB, kX⟩
    have H2 := Lib.hid (And.intro hc.drew (And.intro kB.drew (kX.chg ((Chg.refl w2 (fun _ => False)).drew) (fun _ _ h => h))))
    have z0 := H2.out.2.1.cell 0 _ rfl
    have z1 := H2.out.2.1.cell 1 _ rfl
    clear hc kB kX
    refine wp_region_held_drew (S := fun w' => w'.cell? ⟨b, 0, none⟩ = some (.slice A L.length c) ∧ w'.cell? ⟨b, 1, none⟩ = some (.int .i64 ((a + k : Nat) : Int))) (by kernel_rfl) ⟨z0, z1⟩ (fun hHeld => ?_)
    generalize w2.drew = wr at *
    refine ty 1 40 rfl rfl ?_; simp only [sa, sb, sc]
    refine ty 2 41 rfl rfl ?_; simp only [sa, sb, sc]
    refine ty 3 42 rfl rfl ?_; simp only [sa, sb, sc]
    refine ty 4 43 rfl rfl ?_; simp only [sa, sb, sc]
    refine ty 5 44 rfl rfl ?_; simp only [sa, sb, sc]
    refine ty 6 45 rfl rfl ?_; simp only [sa, sb, sc]
    refine ty 7 46 rfl rfl ?_; simp only [sa, sb, sc]
    refine ty 8 47 rfl rfl ?_; simp only [sa, sb, sc]
    refine ty 9 48 rfl rfl ?_; simp only [sa, sb, sc]
    refine ty 10 49 rfl rfl ?_; simp only [sa, sb, sc]
    refine ty 11 50 rfl rfl ?_; simp only [sa, sb, sc]
    refine ty 12 51 rfl rfl ?_; simp only [sa, sb, sc]
    refine ty 13 52 rfl rfl ?_; simp only [sa, sb, sc]
    refine ty 14 53 rfl rfl ?_; simp only [sa, sb, sc]
    refine ty 15 54 rfl rfl ?_; simp only [sa, sb, sc]
    refine rd 0 (by kernel_rfl) rfl (fun K hK => ?_)
    go_simp
    have hal := (Below.refl wr.heap.size wr).alloc (Nat.le_refl _) (.cells #[] 5)
    have kE := Blk.new wr 5 []
    have x0 := (H2.out.2.1.below hal).cell 0 _ rfl
    have x1 := (H2.out.2.1.below hal).cell 1 _ rfl
    have H3 := Lib.hid (And.intro kE hal)
    clear kE hal
    refine hK.out _ _ ⟨x0, x1⟩ (fun hHeld0 => ?_)
    clear hK K; try simp only [Act.put, sa, sb, sc]
    refine rd 16 (by kernel_rfl) rfl (fun K hK => ?_)
    skip
    have NWS := news_slice (H2.out.2.2.1.below H3.out.2) a k hak
    refine step_append_any rfl (.tmp 39) (.tmp 54) 24 rfl w.heap.size 5 i0 (.int .u8 0) 1 1 Tryz.underlying24 hi0 hz0 hz1 hz2 rfl (by decide) _ 0 [] rfl (own_none H3.out.1 H2.out.1.size) _ k (bys ((L.drop a).take k)) rfl NWS (by unfold maxLen; omega) (by omega) (by have := H2.out.1.size; have := H3.out.2.size; omega) ?_
    intro v5 W5 hown5 hgrow5
    simp only [Nat.zero_add, List.nil_append] at hown5
    obtain ⟨A5, c5, rfl⟩ := (Sho.own hown5).form
    have hbw : Below wr.heap.size wr W5 := H3.out.2.grown hgrow5 (by have := H3.out.2.size; omega) (fun k e => by have e' : some wr.heap.size = some k := e; injection e' with e'; omega)
    have hlt : ((L.drop a).take k).length = k := by rw [List.length_take, List.length_drop]; omega
    have H5 : Hid (OwnB W5 w.heap.size (.slice A5 k c5) (rtakV r (k : Int)) ∧ Blk W5 b 113 [.slice A L.length c, .int .i64 ((a + k : Nat) : Int), .bool (rtakN r (k : Int)).bad] ∧ BysF D W5 (.slice A L.length c) L ∧ RrC (rtakN r (k : Int)) L (a + k) (rtakN r (k : Int)).bad ∧ Chg w W5 (fun k => k = b)) := Lib.hid (by
     have e9 : (rtakN r (k : Int)).bad = false := HG.out.1.1.symm
     rw [e9, HG.out.2]
     refine ⟨?_, H2.out.2.1.below hbw, H2.out.2.2.below hbw, HG.out.1, H2.out.1.trans (Chg.of_below (S := fun _ => False) hbw) (fun _ _ h => h.elim)⟩
     unfold OwnB
     rw [hlt]
     exact hown5)
    have x0' := H5.out.2.1.cell 0 _ rfl
    have x1' := H5.out.2.1.cell 1 _ rfl
    clear hown5 hgrow5 hbw hlt NWS
    simp only [Act.put, List.getElem_toArray, List.getElem_cons_succ, List.getElem_cons_zero, List.setIfInBounds_toArray, List.set_cons_zero, List.set_cons_succ]
    refine hK.out _ _ ⟨x0', x1'⟩ (fun hHeld16 => ?_)
    clear hK K; try simp only [Act.put, sa, sb, sc]
    refine ty 17 4 rfl rfl ?_; simp only [sa, sb, sc]
    refine wpAnyH_done (by kernel_rfl) ?_ _
    clear hHeld
    go_wp2
    all_goals go_ret
    all_goals exact ⟨_, rfl, H5.out.1, ⟨_, L, a + k, H5.out.2.1, H5.out.2.2.1, HX.out.2.2, H5.out.2.2.2.1⟩, H5.out.2.2.2.2⟩
set_option maxRecDepth 100000 in
set_option maxHeartbeats 1000000 in
theorem rnumber_any (D : Nat → Prop) (b : Nat) (r : RdD) (n : Int) (hn9 : -1000000000000 ≤ n ∧ n ≤ 1000000000000) (hsm : r.l.length ≤ 1000000000) (w : World) (h : RrW D w b r) :
  Calls Tryz.prog 60 #[.pointer (some ⟨b, 0, none⟩), .int .i64 n] w fun e w' => e = .returned (.int .u32 (rnumV r n)) ∧ RrW D w' b (rtakN r n) ∧ Chg w w' (fun k => k = b) := by
 have HT := Lib.hid (rraw_any D b r n hn9 w h)
 have HL := Lib.hid (rtakV_length r n)
 have HV : Hid (rnumV r n = numL (rtakV r n)) := Lib.hid rfl
 clear h
 generalize rnumV r n = NV at *
 generalize rtakV r n = V at *
 generalize rtakN r n = N at *
 go_enter Tryz.func60, Tryz.ntmps60
 go_wp2_with fail
 refine HT.out.mono ?_
 rintro e w1 ⟨v1, rfl, h1, h2, h3⟩
 obtain ⟨A, c, rfl⟩ := h1.form
 have H1 := Lib.hid (And.intro h1.bys (And.intro h2 h3))
 have HC : Hid (∀ k, k < V.length → ∃ (x : Nat) (g o : Nat), A = some ⟨g, o, none⟩ ∧ x < 256 ∧ w1.cell? ⟨g, o + k, none⟩ = some (.int .u8 (x : Int)) ∧ numL (V.take (k + 1)) = bits .or .u32 (numL (V.take k) * 256 % 4294967296) (x : Int)) := Lib.hid (fun k hk => by
  obtain ⟨g, o, e1, e2, e3, e4, e5⟩ := H1.out.1.byteAt k hk
  exact ⟨V[k].toNat, g, o, e1, V[k].toNat_lt, e5, numL_take V k hk⟩)
 have H0 : Hid (numL (V.take 0) = 0) := Lib.hid rfl
 have HZ : Hid (numL (V.take V.length) = NV) := Lib.hid (by rw [List.take_length]; exact HV.out.symm)
 have hlen : V.length ≤ 1000000000 := by have := HL.out; omega
 clear h1 h2 h3 HV HL
 generalize V.length = M at *
 go_wp2
 go_loopw [5, 7, 12] (fun v5 v7 v12 wr => ∃ k : Nat, v5 = .int .u32 (numL (V.take k)) ∧ v12 = .int .i64 k ∧ k ≤ M ∧ wr = w1) (fun _ _ v _ => M - (intOf v).toNat)
 case atStart => exact ⟨0, by rw [H0.out], rfl, Nat.zero_le _, rfl⟩
 case round =>
  obtain ⟨k, rfl, rfl, hk, rfl⟩ := hrel
  by_cases hlt : k < M
  ·obtain ⟨x, g, o, rfl, hx, p0, hw⟩ := HC.out k hlt
   have HWS := Lib.hid hw
   have ex : ((x : Nat) : Int) % 4294967296 = (x : Nat) := by omega
   clear hw
   generalize numL (V.take k) = X at *
   go_wp2
   go_roundw
   case rel => exact ⟨k + 1, by rw [HWS.out], by go_num, by omega, trivial⟩
   case measure => simp [intOf]; omega
  ·obtain rfl : k = M := by omega
   go_wp2
   go_ret
   rw [HZ.out]
   exact ⟨rfl, H1.out.2.1, H1.out.2.2⟩
theorem RrW.spoil {D : Nat → Prop} {w : World} {b : Nat} {r : RdD} (h : RrW D w b r) (u : World) (hu : u = w.setCell ⟨b, 2, none⟩ (.bool true)) : RrW D u b ⟨[], true⟩ ∧ Chg w u (fun k => k = b) := by
 subst hu
 obtain ⟨v, L, a, h1, h2, h3, h4⟩ := h
 have hc : Chg w (w.setCell ⟨b, 2, none⟩ (.bool true)) (fun k => k = b) := chg_cell (Chg.refl w _) 2 _
 exact ⟨⟨v, L, a, h1.set 2 (.bool true) (by simp), h2.chg hc (fun g hg e => h3 (by rw [← (show g = b from e)]; exact hg)), h3, rfl, h4.2.1, h4.2.2.1, fun e => absurd e (by decide), fun _ => rfl⟩, hc⟩
set_option maxRecDepth 100000 in
theorem rbytes_any (D : Nat → Prop) (b : Nat) (r : RdD) (most : Int) (hm : 0 ≤ most ∧ most ≤ 1000000) (hsm : r.l.length ≤ 1000000000) (w : World) (h : RrW D w b r) :
  Calls Tryz.prog 61 #[.pointer (some ⟨b, 0, none⟩), .int .i64 most] w fun e w' => ∃ v, e = .returned v ∧ OwnB w' w.heap.size v (rtxtV r most) ∧ RrW D w' b (rtxtR r most) ∧ Chg w w' (fun k => k = b) := by
 have HT := Lib.hid (rnumber_any D b r 2 (by decide) hsm w h)
 have hl := rnumV_lt r 2 (by decide)
 have hl1 : rnumV r 2 < 65536 := hl.2
 have hl0 : 0 ≤ rnumV r 2 := hl.1
 have HR := Lib.hid (fun (r' : RdD) (n : Int) (hn : -1000000000000 ≤ n ∧ n ≤ 1000000000000) (wz : World) (z : RrW D wz b r') => rraw_any D b r' n hn wz z)
 have HV : Hid (rtxtV r most = rtakV (rtakN r 2) (if most < rnumV r 2 then -1 else rnumV r 2) ∧ rtxtR r most = rtakN (rtakN r 2) (if most < rnumV r 2 then -1 else rnumV r 2)) := Lib.hid ⟨rfl, rfl⟩
 clear h hl
 generalize rtxtV r most = TV at *
 generalize rtxtR r most = TN at *
 generalize rnumV r 2 = NV at *
 generalize rtakN r 2 = N at *
 go_enter Tryz.func61, Tryz.ntmps61
 go_wp2_with fail
 refine HT.out.mono ?_
 rintro e w1 ⟨rfl, h1, h2⟩
 have H1 := Lib.hid (And.intro h1 h2)
 clear h1 h2
 by_cases hgt : most < NV
 ·have HX : Hid (TV = rtakV ⟨[], true⟩ NV ∧ TN = rtakN ⟨[], true⟩ NV) := Lib.hid (by
   have := HV.out
   rw [if_pos hgt] at this
   have e1 := rtak_short (r := N) (n := -1) (by unfold rtakB; simp)
   have e2 := rtak_bad (r := ⟨[], true⟩) NV rfl
   rw [this.1, this.2, e1.1, e1.2, e2.1, e2.2]
   exact ⟨rfl, rfl⟩)
  have hpos : 0 < NV := by omega
  obtain ⟨v9, L9, a9, k1, k2, k3, k4⟩ := H1.out.1
  have f2 := k1.free 2
  have z2 := k1.cell 2 _ rfl
  have HSP := Lib.hid (H1.out.1.spoil _ rfl)
  clear HV k1 k2 k3 k4
  go_wp2_with fail
  refine (HR.out ⟨[], true⟩ NV (by omega) _ HSP.out.1).mono ?_
  rintro e w2 ⟨v2, rfl, h1, h2, h3⟩
  obtain ⟨A2, c2, rfl⟩ := h1.form
  have H2 : Hid (OwnB w2 w.heap.size (.slice A2 (rtakV ⟨[], true⟩ NV).length c2) (rtakV ⟨[], true⟩ NV) ∧ RrW D w2 b (rtakN ⟨[], true⟩ NV) ∧ Chg w w2 (fun k => k = b)) := Lib.hid ⟨own_mono' h1 (by have := H1.out.2.size; have := HSP.out.2.size; omega), h2, (H1.out.2.trans HSP.out.2 (fun _ _ h => h)).trans h3 (fun _ _ h => h)⟩
  clear h1 h2 h3 z2 f2
  go_wp2
  go_ret
  rw [HX.out.1, HX.out.2]
  exact ⟨_, rfl, H2.out.1, H2.out.2.1, H2.out.2.2⟩
 ·have HX : Hid (TV = rtakV N NV ∧ TN = rtakN N NV) := Lib.hid (by have := HV.out; rw [if_neg hgt] at this; exact this)
  clear HV
  go_wp2_with fail
  refine (HR.out N NV (by omega) _ H1.out.1).mono ?_
  rintro e w2 ⟨v2, rfl, h1, h2, h3⟩
  obtain ⟨A2, c2, rfl⟩ := h1.form
  have H2 : Hid (OwnB w2 w.heap.size (.slice A2 (rtakV N NV).length c2) (rtakV N NV) ∧ RrW D w2 b (rtakN N NV) ∧ Chg w w2 (fun k => k = b)) := Lib.hid ⟨own_mono' h1 H1.out.2.size, h2, H1.out.2.trans h3 (fun _ _ h => h)⟩
  clear h1 h2 h3
  go_wp2
  go_ret
  rw [HX.out.1, HX.out.2]
  exact ⟨_, rfl, H2.out.1, H2.out.2.1, H2.out.2.2⟩
set_option maxRecDepth 100000 in
set_option maxHeartbeats 2000000 in
theorem rend_any (D : Nat → Prop) (b : Nat) (r : RdD) (w : World) (h : RrW D w b r) :
  Calls Tryz.prog 63 #[.pointer (some ⟨b, 0, none⟩)] w fun e w' => e = .returned (.bool (rend r)) ∧ Below w.heap.size w w' := by
 obtain ⟨v, L, a, h1, h2, h3, h4⟩ := h
 obtain ⟨A, c, rfl⟩ := h2.1.form
 have HB := Lib.hid (Below.refl w.heap.size w).drew
 have HE : Hid (rend r = (!r.bad && decide (r.l.length = 0))) := Lib.hid rfl
 have hHL : Hid (r.bad = false → r.l.length = L.length - a) := Lib.hid (fun e => by rw [h4.2.2.2.1 e, List.length_drop])
 have haL := h4.2.1
 have z0 := h1.drew.cell 0 _ rfl
 have z1 := h1.drew.cell 1 _ rfl
 have z2 := h1.drew.cell 2 _ rfl
 clear h1 h2 h3 h4
 generalize rend r = RE at *
 generalize r.l.length = RL at *
 generalize r.bad = bad at *
 go_enter Tryz.func63, Tryz.ntmps63
 go_upto_region 1 with fail
 cases bad with
 | true =>
  refine wp_region_held_drew (S := fun w' => w'.cell? ⟨b, 0, none⟩ = some (.slice A L.length c) ∧ w'.cell? ⟨b, 1, none⟩ = some (.int .i64 ((a : Nat) : Int)) ∧ w'.cell? ⟨b, 2, none⟩ = some (.bool true)) (by kernel_rfl) ⟨z0, z1, z2⟩ (fun hHeld => ?_)
  refine ty 0 3 rfl rfl ?_; simp only [sa, sb, sc]
  refine ty 1 4 rfl rfl ?_; simp only [sa, sb, sc]
  refine ty 2 5 rfl rfl ?_; simp only [sa, sb, sc]
  refine ty 3 6 rfl rfl ?_; simp only [sa, sb, sc]
  refine ty 4 7 rfl rfl ?_; simp only [sa, sb, sc]
  refine ty 5 8 rfl rfl ?_; simp only [sa, sb, sc]
  refine tn 6 9 rfl rfl ?_; simp only [sa, sb, sc]
  refine tn 7 10 rfl rfl ?_; simp only [sa, sb, sc]
  refine tn 8 11 rfl rfl ?_; simp only [sa, sb, sc]
  refine tn 9 12 rfl rfl ?_; simp only [sa, sb, sc]
  refine tn 10 13 rfl rfl ?_; simp only [sa, sb, sc]
  refine tn 11 14 rfl rfl ?_; simp only [sa, sb, sc]
  refine tn 12 15 rfl rfl ?_; simp only [sa, sb, sc]
  refine tn 13 16 rfl rfl ?_; simp only [sa, sb, sc]
  refine tn 14 17 rfl rfl ?_; simp only [sa, sb, sc]
  refine tn 15 18 rfl rfl ?_; simp only [sa, sb, sc]
  refine ty 16 19 rfl rfl ?_; simp only [sa, sb, sc]
  refine ty 17 2 rfl rfl ?_; simp only [sa, sb, sc]
  refine wpAnyH_done (by kernel_rfl) ?_ _
  clear hHeld
  go_wp2
  go_ret
  rw [HE.out]
  exact ⟨rfl, HB.out⟩
 | false =>
  have HRE : Hid (RE = (((a : Nat) : Int) == ((L.length : Nat) : Int))) := Lib.hid (by
   rw [HE.out, hHL.out rfl, Bool.eq_iff_iff]
   simp
   omega)
  refine wp_region_held_drew (S := fun w' => w'.cell? ⟨b, 0, none⟩ = some (.slice A L.length c) ∧ w'.cell? ⟨b, 1, none⟩ = some (.int .i64 ((a : Nat) : Int)) ∧ w'.cell? ⟨b, 2, none⟩ = some (.bool false)) (by kernel_rfl) ⟨z0, z1, z2⟩ (fun hHeld => ?_)
  refine ty 0 3 rfl rfl ?_; simp only [sa, sb, sc]
  refine ty 1 4 rfl rfl ?_; simp only [sa, sb, sc]
  refine ty 2 5 rfl rfl ?_; simp only [sa, sb, sc]
  refine ty 3 6 rfl rfl ?_; simp only [sa, sb, sc]
  refine ty 4 7 rfl rfl ?_; simp only [sa, sb, sc]
  refine ty 5 8 rfl rfl ?_; simp only [sa, sb, sc]
  refine ty 6 9 rfl rfl ?_; simp only [sa, sb, sc]
  refine ty 7 10 rfl rfl ?_; simp only [sa, sb, sc]
  refine ty 8 11 rfl rfl ?_; simp only [sa, sb, sc]
  refine ty 9 12 rfl rfl ?_; simp only [sa, sb, sc]
  refine ty 10 13 rfl rfl ?_; simp only [sa, sb, sc]
  refine ty 11 14 rfl rfl ?_; simp only [sa, sb, sc]
  refine ty 12 15 rfl rfl ?_; simp only [sa, sb, sc]
  refine ty 13 16 rfl rfl ?_; simp only [sa, sb, sc]
  refine ty 14 17 rfl rfl ?_; simp only [sa, sb, sc]
  refine ty 15 18 rfl rfl ?_; simp only [sa, sb, sc]
  refine ty 16 19 rfl rfl ?_; simp only [sa, sb, sc]
  refine ty 17 2 rfl rfl ?_; simp only [sa, sb, sc]
  refine wpAnyH_done (by kernel_rfl) ?_ _
  clear hHeld
  go_wp2
  go_ret
  rw [HRE.out]
  exact ⟨rfl, HB.out⟩
end Go.Proofs.YtgeplpdcnanmnaaGreat
