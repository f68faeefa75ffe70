/- Bounds of a policy. Slices shown, and where they lie. wire's Reader. Conditions: as each theorem states them. -/
import Derived.Test.YtgeplpdcnanmnaaGreatZbb
import Derived.Test.YtgeplpdcnanmnaaGreatZaa
import Derived.Test.YtgeplpdcnanmnaaGreatZaz
import Derived.Deep.RegionLaw
import Derived.Test.YtgeplpdcnanmnaaGreatProg
import Derived.Test.YtgeplpdcnanmnaaGreatZah
import Derived.Test.YtgeplpdcnanmnaaGreatZad
namespace Go.Proofs.YtgeplpdcnanmnaaGreat
open Go.RowKit
set_option linter.unusedVariables false
set_option linter.unusedSimpArgs false

theorem under_policy : Tryz.prog.underlying 30 = some (.struct (Tryz.prog.fieldsOf 30)) := by kernel_rfl
theorem size_policy : (Tryz.prog.info? 30).map (·.size) = some 3 := by kernel_rfl
def SmallPol (p : PolD) : Prop := p.log.length ≤ 1000000000 ∧ p.wits.length ≤ 1000000000 ∧ (∀ i (h : i < p.wits.length), p.wits[i].length ≤ 1000000000) ∧ -1000000000 ≤ p.quorum ∧ p.quorum ≤ 1000000000
theorem OwnR.chgT {w w1 : World} {base : Nat} {v : Value} {ls : List (List UInt8)} {T : Nat → Prop} (h : OwnR w base v ls) (hc : Chg w w1 T) (hT : ∀ g, base ≤ g → g < w.heap.size → ¬ T g) : OwnR w1 base v ls := by
 have hf := h.foot
 obtain ⟨us, h1, h2⟩ := h
 refine ⟨us, ownsRow_chg h1 hc (fun k hk => hT k (World.ownsRow.lt h1 k hk).1 (World.ownsRow.lt h1 k hk).2), fun i hi => ?_⟩
 obtain ⟨u, e, hu, hn⟩ := h2 i hi
 exact ⟨u, e, Sho.chgF hu (S := fun g => base ≤ g ∧ g < w.heap.size) (fun h0 g hg => ⟨(hn h0).2 g hg, Sho.lt hu h0 g hg⟩) hc (fun g hg => hT g hg.1 hg.2), hn⟩
def ShoP (D : Nat → Prop) (w : World) (v : Value) (n k : Nat) (cs : List Value) : Prop :=
 cs.length = n * k ∧ ((v = .slice none 0 0 ∧ n = 0) ∨ ∃ g o c, v = .slice (some ⟨g, o, none⟩) n c ∧ n ≤ c ∧ c ≤ maxLen ∧ g < w.heap.size ∧ (0 < n → D g) ∧ ∀ j u, cs[j]? = some u → w.cell? ⟨g, o + j, none⟩ = some u)
theorem ShoP.nil (D : Nat → Prop) (w : World) (k : Nat) : ShoP D w (.slice none 0 0) 0 k [] := ⟨by simp, .inl ⟨rfl, rfl⟩⟩
theorem ShoP.sho {D : Nat → Prop} {w : World} {v : Value} {n k : Nat} {cs : List Value} (h : ShoP D w v n k cs) : Sho w v n k cs := by
 obtain ⟨hl, h | ⟨g, o, c, rfl, hc, hm, hg, _, hcell⟩⟩ := h
 ·obtain ⟨rfl, rfl⟩ := h
  have : cs = [] := List.length_eq_zero_iff.1 (by omega)
  subst this
  exact Sho.nil w k
 ·rcases Nat.eq_zero_or_pos n with h0 | h0
  ·subst h0
   have : cs = [] := List.length_eq_zero_iff.1 (by omega)
   subst this
   exact Sho.empty w k _ c
  ·exact ⟨hl, .inr ⟨g, o, c, rfl, hc, hm, hg, hcell⟩⟩
theorem ShoP.form {D : Nat → Prop} {w : World} {v : Value} {n k : Nat} {cs : List Value} (h : ShoP D w v n k cs) : (v = .slice none 0 0 ∧ n = 0) ∨ ∃ g o c, v = .slice (some ⟨g, o, none⟩) n c ∧ n ≤ c ∧ c ≤ maxLen ∧ g < w.heap.size := by
 obtain ⟨hl, h | ⟨g, o, c, h1, hc, hm, hg, _, hcell⟩⟩ := h
 ·exact .inl h
 ·exact .inr ⟨g, o, c, h1, hc, hm, hg⟩
theorem ShoP.chg {D T : Nat → Prop} {w w1 : World} {v : Value} {n k : Nat} {cs : List Value} (h : ShoP D w v n k cs) (hc : Chg w w1 T) (hT : ∀ g, D g → ¬ T g) : ShoP D w1 v n k cs := by
 obtain ⟨hl, h | ⟨g, o, c, h1, hcc, hm, hg, hd, hcell⟩⟩ := h
 ·exact ⟨hl, .inl h⟩
 ·refine ⟨hl, .inr ⟨g, o, c, h1, hcc, hm, Nat.lt_of_lt_of_le hg hc.size, hd, fun j u hj => ?_⟩⟩
  have h0 : 0 < n := by
   rcases Nat.eq_zero_or_pos n with h0 | h0
   ·subst h0
    have : j < cs.length := (List.getElem?_eq_some_iff.1 hj).1
    omega
   ·exact h0
  exact (hc.cell hg (hT g (hd h0))).trans (hcell j u hj)
theorem ShoP.own {w : World} {base : Nat} {e : TypeId} {k n : Nat} {v : Value} {xs : List Value} (h : w.ownsRow base e k v n xs) : ShoP (fun g => base ≤ g ∧ g < w.heap.size) w v n k xs := by
 have hs := Sho.own h
 obtain ⟨hl, h2 | ⟨g, cap, cur, rfl, hb, hh, hn, hcap, _⟩⟩ := h
 ·exact ⟨hl, .inl h2⟩
 ·have hg : g < w.heap.size := (Array.getElem?_eq_some_iff.1 hh).1
  refine ⟨hl, .inr ⟨g, 0, cap, rfl, hn, hcap, hg, fun _ => ⟨hb, hg⟩, fun j u hj => ?_⟩⟩
  have h0 : 0 < n := by
   rcases Nat.eq_zero_or_pos n with h0 | h0
   ·subst h0
    have : j < xs.length := (List.getElem?_eq_some_iff.1 hj).1
    omega
   ·exact h0
  obtain ⟨g', o', e1, _, _, _, _, hc⟩ := hs.place h0
  injection e1 with e1
  injection e1 with e1 e2
  subst e1 e2
  exact hc j u hj
theorem ShoP.head {D : Nat → Prop} {w : World} {g o n c k : Nat} {cs : List Value} (h : ShoP D w (.slice (some ⟨g, o, none⟩) n c) n k cs) (a : Nat) (ha : a ≤ n) : ShoP D w (.slice (some ⟨g, o, none⟩) a c) a k (cs.take (a * k)) := by
 obtain ⟨hl, h | ⟨g', o', c', h1, hc, hm, hg, hd, hcell⟩⟩ := h
 ·exact absurd h.1 (by simp)
 ·injection h1 with h1 _ h2
  injection h1 with h1
  injection h1 with h1 h3
  subst h1 h2 h3
  refine ⟨by rw [List.length_take, hl]; exact Nat.min_eq_left (Nat.mul_le_mul_right k ha), .inr ⟨g, o, c, rfl, by omega, hm, hg, fun h0 => hd (by omega), fun j u hj => hcell j u ?_⟩⟩
  rw [List.getElem?_take] at hj
  split at hj
  ·exact hj
  ·cases hj
theorem ShoP.tail {D : Nat → Prop} {w : World} {g o n c k : Nat} {cs : List Value} (h : ShoP D w (.slice (some ⟨g, o, none⟩) n c) n k cs) (a : Nat) (ha : a ≤ n) : ShoP D w (.slice (some ⟨g, o + a * k, none⟩) (n - a) (c - a)) (n - a) k (cs.drop (a * k)) := by
 obtain ⟨hl, h | ⟨g', o', c', h1, hc, hm, hg, hd, hcell⟩⟩ := h
 ·exact absurd h.1 (by simp)
 ·injection h1 with h1 _ h2
  injection h1 with h1
  injection h1 with h1 h3
  subst h1 h2 h3
  refine ⟨by rw [List.length_drop, hl, Nat.sub_mul], .inr ⟨g, o + a * k, c - a, rfl, by omega, by omega, hg, fun h0 => hd (by omega), fun j u hj => ?_⟩⟩
  rw [List.getElem?_drop] at hj
  rw [Nat.add_assoc]
  exact hcell _ u hj
def RdW (D : Nat → Prop) (w : World) (b : Nat) (r : RdD) : Prop := ∃ v, Blk w b 197 [v, .bool r.bad] ∧ ShoP D w v r.l.length 1 (bys r.l) ∧ ¬ D b
theorem RdW.chg {D T : Nat → Prop} {w w1 : World} {b : Nat} {r : RdD} (h : RdW D w b r) (hc : Chg w w1 T) (hD : ∀ g, D g → ¬ T g) (hb : ¬ T b) : RdW D w1 b r := by
 obtain ⟨v, h1, h2, h3⟩ := h
 exact ⟨v, h1.chg hc hb, h2.chg hc hD, h3⟩
theorem RdW.below {D : Nat → Prop} {w w1 : World} {b : Nat} {r : RdD} (h : RdW D w b r) (hb : Below w.heap.size w w1) : RdW D w1 b r := h.chg (Chg.of_below (S := fun _ => False) hb) (fun _ _ h => h) (fun h => h)
theorem RdW.lt {D : Nat → Prop} {w : World} {b : Nat} {r : RdD} (h : RdW D w b r) : b < w.heap.size := by
 obtain ⟨v, h1, h2, h3⟩ := h
 exact h1.lt
set_option maxRecDepth 100000 in
set_option maxHeartbeats 1000000 in
theorem take_any (D : Nat → Prop) (b : Nat) (r : RdD) (n : Int) (w : World) (h : RdW D w b r) :
  Calls Tryz.prog 152 #[.pointer (some ⟨b, 0, none⟩), .int .i64 n] w fun e w' => ∃ v, e = .returned v ∧ ShoP D w' v (rtakV r n).length 1 (bys (rtakV r n)) ∧ RdW D w' b (rtakN r n) ∧ Chg w w' (fun k => k = b) := by
 obtain ⟨v, hb, hs, hd⟩ := h
 obtain ⟨l, bad⟩ := r
 have c0 := hb.cell 0 _ rfl
 have c1 := hb.cell 1 _ rfl
 have y0 := hb.free 0
 have y1 := hb.free 1
 have hlt := hb.lt
 have HB := Lib.hid (And.intro hb (And.intro hs hd))
 have hform := hs.form
 have hsb : Chg w (w.setCell ⟨b, 0, none⟩ (.slice none 0 0)) (fun k => k = b) := chg_cell (Chg.refl w _) 0 (.slice none 0 0)
 have hsb2 : Chg w ((w.setCell ⟨b, 0, none⟩ (.slice none 0 0)).setCell ⟨b, 1, none⟩ (.bool true)) (fun k => k = b) := chg_cell hsb 1 (.bool true)
 have HF : Hid (RdW D ((w.setCell ⟨b, 0, none⟩ (.slice none 0 0)).setCell ⟨b, 1, none⟩ (.bool true)) b ⟨[], true⟩ ∧ Chg w ((w.setCell ⟨b, 0, none⟩ (.slice none 0 0)).setCell ⟨b, 1, none⟩ (.bool true)) (fun k => k = b)) := Lib.hid ⟨⟨_, ((hb.set 0 (.slice none 0 0) (by simp)).set 1 (.bool true) (by simp)), ShoP.nil D _ 1, hd⟩, hsb2⟩
 clear hb hs hd hsb hsb2
 cases hbad : rtakB ⟨l, bad⟩ n with
 | false =>
  have HS := Lib.hid (rtak_short hbad)
  have hno : bad = true ∨ (bad = false ∧ (n < 0 ∨ (0 ≤ n ∧ (l.length : Int) < n))) := by
   unfold rtakB at hbad
   cases bad with
   | true => exact .inl rfl
   | false =>
    simp only [Bool.not_false, Bool.true_and, Bool.and_eq_false_iff, decide_eq_false_iff_not] at hbad
    refine .inr ⟨rfl, ?_⟩
    omega
  clear hbad
  go_enter Tryz.func152, Tryz.ntmps152
  rcases hform with ⟨rfl, hl0⟩ | ⟨g, o, c, rfl, hnc, hcm, hg⟩
  all_goals
   rcases hno with rfl | ⟨rfl, hn | ⟨hn0, hn⟩⟩
   all_goals
    go_wp2
    go_ret
    rw [HS.out.1, HS.out.2]
    exact ⟨_, rfl, ShoP.nil D _ 1, HF.out.1, HF.out.2⟩
 | true =>
  have hyes := hbad
  unfold rtakB at hyes
  simp only [Bool.and_eq_true, Bool.not_eq_true', decide_eq_true_eq] at hyes
  obtain ⟨rfl, hn0, hnl⟩ := hyes
  obtain ⟨k, rfl⟩ := Int.eq_ofNat_of_zero_le hn0
  have HV : Hid (rtakV ⟨l, false⟩ (k : Int) = l.take k ∧ rtakN ⟨l, false⟩ (k : Int) = ⟨l.drop k, false⟩) := Lib.hid (by
   unfold rtakV rtakN
   rw [hbad]
   simp)
  have hkl : k ≤ l.length := by omega
  clear hbad hnl hn0
  go_enter Tryz.func152, Tryz.ntmps152
  rcases hform with ⟨rfl, hl0⟩ | ⟨g, o, c, rfl, hnc, hcm, hg⟩
  ·have hl0 : l.length = 0 := hl0
   obtain rfl : k = 0 := by omega
   rw [show ((0 : Nat) : Int) = 0 from rfl] at *
   have HE : Hid (l = []) := Lib.hid (List.length_eq_zero_iff.1 hl0)
   have hs0 : Chg w (w.setCell ⟨b, 0, none⟩ (.slice none 0 0)) (fun k => k = b) := chg_cell (Chg.refl w _) 0 (.slice none 0 0)
   have HS0 := Lib.hid (And.intro (HB.out.1.set 0 (.slice none 0 0) (by simp)) hs0)
   clear hs0
   go_wp2
   go_ret
   rw [HV.out.1, HV.out.2, HE.out]
   exact ⟨_, rfl, ShoP.nil D _ 1, ⟨_, HS0.out.1, ShoP.nil D _ 1, HB.out.2.2⟩, HS0.out.2⟩
  ·have hnc : l.length ≤ c := hnc
   have hs1 := HB.out.2.1.head k hkl
   have hs2 := HB.out.2.1.tail k hkl
   rw [Nat.mul_one, ← bys_take] at hs1
   rw [Nat.mul_one, ← bys_drop] at hs2
   have HH : Hid (∀ (u : Value), ShoP D (w.setCell ⟨b, 0, none⟩ u) (.slice (some ⟨g, o, none⟩) k c) (l.take k).length 1 (bys (l.take k))) := Lib.hid (fun u => by
    rw [List.length_take, Nat.min_eq_left hkl]
    exact hs1.chg (chg_cell (Chg.refl w _) 0 u) (fun x hx e => HB.out.2.2 (by rw [← (show x = b from e)]; exact hx)))
   have HTT : Hid (ShoP D (w.setCell ⟨b, 0, none⟩ (.slice (some ⟨g, o + k, none⟩) (l.length - k) (c - k))) (.slice (some ⟨g, o + k, none⟩) (l.length - k) (c - k)) (l.drop k).length 1 (bys (l.drop k))) := Lib.hid (by
    rw [List.length_drop]
    exact hs2.chg (chg_cell (Chg.refl w _) 0 _) (fun x hx e => HB.out.2.2 (by rw [← (show x = b from e)]; exact hx)))
   have HT0 : Hid (∀ W : World, w.heap.size ≤ W.heap.size → l.length = k → ShoP D W (.slice (some ⟨g, o, none⟩) 0 0) (l.drop k).length 1 (bys (l.drop k))) := Lib.hid (fun W hW e => by
    have e1 : l.drop k = [] := List.drop_eq_nil_of_le (Nat.le_of_eq e)
    rw [e1]
    exact ⟨rfl, .inr ⟨g, o, 0, rfl, Nat.le_refl _, Nat.zero_le _, by omega, fun h => absurd h (Nat.lt_irrefl _), fun j u hj => by simp [bys] at hj⟩⟩)
   have hkc : k ≤ c := by omega
   have HBS : Hid (∀ u : Value, Blk (w.setCell ⟨b, 0, none⟩ u) b 197 [u, .bool false] ∧ Chg w (w.setCell ⟨b, 0, none⟩ u) (fun k => k = b)) := Lib.hid (fun u => ⟨HB.out.1.set 0 u (by simp), chg_cell (Chg.refl w _) 0 u⟩)
   clear hs1 hs2
   by_cases hck : c = k
   ·have hlk : l.length = k := by omega
    subst hck
    go_wp2
    go_ret
    rw [HV.out.1, HV.out.2]
    exact ⟨_, rfl, HH.out _, ⟨_, (HBS.out _).1, HT0.out _ (chg_cell (Chg.refl w (fun k => k = b)) 0 _).size hlk, HB.out.2.2⟩, (HBS.out _).2⟩
   ·go_wp2
    go_ret
    rw [HV.out.1, HV.out.2]
    exact ⟨_, rfl, HH.out _, ⟨_, (HBS.out _).1, HTT.out, HB.out.2.2⟩, (HBS.out _).2⟩
set_option maxRecDepth 100000 in
theorem raw_any (D : Nat → Prop) (b : Nat) (r : RdD) (n : Int) (hsm : r.l.length ≤ 1000000000) (w : World) (h : RdW D w b r) :
  Calls Tryz.prog 93 #[.pointer (some ⟨b, 0, none⟩), .int .i64 n] w fun e w' => ∃ v, e = .returned v ∧ OwnB w' w.heap.size v (rtakV r n) ∧ RdW D w' b (rtakN r n) ∧ Chg w w' (fun k => k = b) := by
 have HT := Lib.hid (take_any D b r n w h)
 have HL := Lib.hid (rtakV_length r n)
 have hb := h.lt
 clear h
 generalize rtakV r n = V at *
 generalize rtakN r n = N at *
 go_enter Tryz.func93, Tryz.ntmps93
 go_wp2_with fail
 refine HT.out.mono ?_
 rintro e w1 ⟨v1, rfl, h1, h2, h3⟩
 have hf := Sho.form h1.sho
 obtain ⟨A, c, rfl⟩ := hf
 have H1 := Lib.hid (And.intro (show Bys w1 (.slice A V.length c) V from h1.sho) (And.intro h2 h3))
 clear h1 h2 h3
 go_wp2_with fail
 refine (clone_any _ V (by have := HL.out; omega) _ H1.out.1).mono ?_
 rintro e w2 ⟨v2, rfl, h1, h2⟩
 have H2 : Hid (OwnB w2 w.heap.size v2 V ∧ RdW D w2 b N ∧ Chg w w2 (fun k => k = b)) := Lib.hid ⟨own_mono' h1 H1.out.2.2.size, H1.out.2.1.below h2, H1.out.2.2.trans (Chg.of_below (S := fun _ => False) h2) (fun _ _ h => h.elim)⟩
 obtain ⟨A2, c2, rfl⟩ := h1.form
 clear h1 h2
 go_wp2
 go_ret
 exact ⟨_, rfl, H2.out.1, H2.out.2.1, H2.out.2.2⟩
theorem num_or (a : Int) (c : Nat) (ha : 0 ≤ a) (hc : c < 256) : bits .or .u32 (a * 256 % 4294967296) (c : Int) = (a * 256 + (c : Int)) % 4294967296 := by
 obtain ⟨m, rfl⟩ := Int.eq_ofNat_of_zero_le ha
 have e : ((m : Int) * 256 % 4294967296) = ((m * 256 % 4294967296 : Nat) : Int) := by omega
 rw [e, or_add (m * 256 % 4294967296) c 8 (by omega) (by omega) (by omega)]
 omega
theorem numL_take (bs : List UInt8) (k : Nat) (h : k < bs.length) : numL (bs.take (k + 1)) = bits .or .u32 (numL (bs.take k) * 256 % 4294967296) ((bs[k].toNat : Nat) : Int) := by
 rw [List.take_succ_eq_append_getElem h, numL_snoc, num_or _ _ (numL_bounds _).1 bs[k].toNat_lt]
set_option maxRecDepth 100000 in
set_option maxHeartbeats 1000000 in
theorem number_any (D : Nat → Prop) (b : Nat) (r : RdD) (n : Int) (hsm : r.l.length ≤ 1000000000) (w : World) (h : RdW D w b r) :
  Calls Tryz.prog 151 #[.pointer (some ⟨b, 0, none⟩), .int .i64 n] w fun e w' => e = .returned (.int .u32 (rnumV r n)) ∧ RdW D w' b (rtakN r n) ∧ Chg w w' (fun k => k = b) := by
 have HT := Lib.hid (take_any D b r n w h)
 have HL := Lib.hid (rtakV_length r n)
 have HV : Hid (rnumV r n = numL (rtakV r n)) := Lib.hid rfl
 clear h
 generalize rnumV r n = NV at *
 generalize rtakV r n = V at *
 generalize rtakN r n = N at *
 go_enter Tryz.func151, Tryz.ntmps151
 go_wp2_with fail
 refine HT.out.mono ?_
 rintro e w1 ⟨v1, rfl, h1, h2, h3⟩
 obtain ⟨A, c, rfl⟩ := Sho.form h1.sho
 have H1 := Lib.hid (And.intro (show Bys w1 (.slice A V.length c) V from h1.sho) (And.intro h2 h3))
 have HC : Hid (∀ k, k < V.length → ∃ (x : Nat) (g o : Nat), A = some ⟨g, o, none⟩ ∧ x < 256 ∧ w1.cell? ⟨g, o + k, none⟩ = some (.int .u8 (x : Int)) ∧ numL (V.take (k + 1)) = bits .or .u32 (numL (V.take k) * 256 % 4294967296) (x : Int)) := Lib.hid (fun k hk => by
  obtain ⟨g, o, e1, e2, e3, e4, e5⟩ := H1.out.1.byteAt k hk
  exact ⟨V[k].toNat, g, o, e1, V[k].toNat_lt, e5, numL_take V k hk⟩)
 have H0 : Hid (numL (V.take 0) = 0) := Lib.hid rfl
 have HZ : Hid (numL (V.take V.length) = NV) := Lib.hid (by rw [List.take_length]; exact HV.out.symm)
 have hlen : V.length ≤ 1000000000 := by have := HL.out; omega
 clear h1 h2 h3 HV HL
 generalize V.length = M at *
 go_wp2
 go_loopw [5, 7, 12] (fun v5 v7 v12 wr => ∃ k : Nat, v5 = .int .u32 (numL (V.take k)) ∧ v12 = .int .i64 k ∧ k ≤ M ∧ wr = w1) (fun _ _ v _ => M - (intOf v).toNat)
 case atStart => exact ⟨0, by rw [H0.out], rfl, Nat.zero_le _, rfl⟩
 case round =>
  obtain ⟨k, rfl, rfl, hk, rfl⟩ := hrel
  by_cases hlt : k < M
  ·obtain ⟨x, g, o, rfl, hx, p0, hw⟩ := HC.out k hlt
   have HWS := Lib.hid hw
   have ex : ((x : Nat) : Int) % 4294967296 = (x : Nat) := by omega
   clear hw
   generalize numL (V.take k) = X at *
   go_wp2
   go_roundw
   case rel => exact ⟨k + 1, by rw [HWS.out], by go_num, by omega, trivial⟩
   case measure => simp [intOf]; omega
  ·obtain rfl : k = M := by omega
   go_wp2
   go_ret
   rw [HZ.out]
   exact ⟨rfl, H1.out.2.1, H1.out.2.2⟩
end Go.Proofs.YtgeplpdcnanmnaaGreat
