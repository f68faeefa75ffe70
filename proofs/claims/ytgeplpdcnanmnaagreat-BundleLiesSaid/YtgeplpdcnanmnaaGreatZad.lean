/- The reference's mixing of a block. Conditions: as each theorem states them. -/
import Derived.Test.YtgeplpdcnanmnaaGreatZac
import Derived.RegionTactic
import Derived.BigRegion
import Derived.Deep.RegionWith
import Derived.Deep.RegionLaw
import Derived.Deep.RegionHeld3
import Derived.StillTailTactics
namespace Go.Proofs.YtgeplpdcnanmnaaGreat
open Go.RowKit
set_option linter.unusedVariables false
set_option linter.unusedSimpArgs false

theorem or_add (x y i : Nat) (hx : x % 2 ^ i = 0) (hy : y < 2 ^ i) (h : x + y < 4294967296) : bits .or .u32 ((x : Nat) : Int) ((y : Nat) : Int) = ((x + y : Nat) : Int) := by
 rw [u32_or_nat x y (by omega) (by omega), nat_join i x y hx hy]
def w4 (a b c d : UInt8) : Int := bits .or .u32 (bits .or .u32 (bits .or .u32 ((a.toNat : Nat) * 16777216) ((b.toNat : Nat) * 65536)) ((c.toNat : Nat) * 256)) (d.toNat : Nat)
theorem w4_eq (a b c d : UInt8) : w4 a b c d = bits .or .u32 (bits .or .u32 (bits .or .u32 (bits .or .u32 (0 * 256 % 4294967296) (a.toNat : Nat) * 256 % 4294967296) (b.toNat : Nat) * 256 % 4294967296) (c.toNat : Nat) * 256 % 4294967296) (d.toNat : Nat) := by
 have ha := a.toNat_lt
 have hb := b.toNat_lt
 have hc := c.toNat_lt
 have hd := d.toNat_lt
 unfold w4
 generalize a.toNat = A at *
 generalize b.toNat = B at *
 generalize c.toNat = C at *
 generalize d.toNat = D at *
 have e1 : ((A : Nat) : Int) * 16777216 = ((A * 16777216 : Nat) : Int) := by omega
 have e2 : ((B : Nat) : Int) * 65536 = ((B * 65536 : Nat) : Int) := by omega
 have e3 : ((C : Nat) : Int) * 256 = ((C * 256 : Nat) : Int) := by omega
 have e0 : (0 : Int) * 256 % 4294967296 = ((0 : Nat) : Int) := rfl
 rw [e1, e2, e3, e0, or_add (A * 16777216) (B * 65536) 24 (by omega) (by omega) (by omega), or_add (A * 16777216 + B * 65536) (C * 256) 16 (by omega) (by omega) (by omega), or_add (A * 16777216 + B * 65536 + C * 256) D 8 (by omega) (by omega) (by omega)]
 rw [or_add 0 A 8 (by omega) (by omega) (by omega)]
 have f1 : ((0 + A : Nat) : Int) * 256 % 4294967296 = ((A * 256 : Nat) : Int) := by omega
 rw [f1, or_add (A * 256) B 8 (by omega) (by omega) (by omega)]
 have f2 : ((A * 256 + B : Nat) : Int) * 256 % 4294967296 = (((A * 256 + B) * 256 : Nat) : Int) := by omega
 rw [f2, or_add ((A * 256 + B) * 256) C 8 (by omega) (by omega) (by omega)]
 obtain ⟨X, hX, hX2⟩ : ∃ X, X = (A * 256 + B) * 256 + C ∧ X < 16777216 := ⟨_, rfl, by omega⟩
 have hY : A * 16777216 + B * 65536 + C * 256 + D = X * 256 + D := by omega
 rw [← hX, hY]
 have f3 : ((X : Nat) : Int) * 256 % 4294967296 = ((X * 256 : Nat) : Int) := by omega
 rw [f3, or_add (X * 256) D 8 (by omega) (by omega) (by omega)]
theorem wordAt4 (l : List UInt8) (i : Nat) (h : 4 * i + 3 < l.length) : wordAt l i 4 = w4 (l[4 * i]'(by omega)) (l[4 * i + 1]'(by omega)) (l[4 * i + 2]'(by omega)) l[4 * i + 3] := by
 rw [wordAt_succ l i 3 h, wordAt_succ l i 2 (by omega), wordAt_succ l i 1 (by omega), wordAt_succ l i 0 (by omega), w4_eq]
 rfl

theorem rnd_other (A B C D E F G H k w : Int) : rnd [A, B, C, D, E, F, G, H] k w = [(H + bg1 E + chs E F G + k + w + (bg0 A + maj A B C)) % 4294967296, A, B, C, (D + (H + bg1 E + chs E F G + k + w)) % 4294967296, E, F, G] := by
 show [(H + bg1 E + chs E F G + k + w + bg0 A + maj A B C) % 4294967296, A, B, C, (D + (H + bg1 E + chs E F G + k + w)) % 4294967296, E, F, G] = _
 rw [Int.add_assoc _ (bg0 A)]
set_option maxRecDepth 10000 in
set_option maxHeartbeats 2000000 in
theorem block_any (s K : List Int) (hs : s.length = 8) (hK : K.length = 64) (kb g o c : Nat) (l : List UInt8) (hl : l.length = 64) (hc : 64 ≤ c) (w : World) (hg : g < w.heap.size) (hx : BysAt w g o l) (hk : Blk w kb 220 (u32s K)) :
  Calls Tryz.prog 175 #[.agg (u32s s).toArray, .pointer (some ⟨kb, 0, none⟩), .slice (some ⟨g, o, none⟩) 64 c] w fun e w' => e = .returned (.agg (u32s (mixF K s l)).toArray) ∧ Below w.heap.size w w' := by
 have HX := Lib.hid (And.intro hx hk)
 clear hx hk
 have HL := Lib.hid (And.intro hl hK)
 clear hl hK
 have HS := Lib.hid hs
 have HM : Hid (mixF K s l = List.zipWith add32 s (rnds K (sched l) s 64)) := Lib.hid rfl
 have HF := Lib.hid (mixF_length K s l hs)
 generalize mixF K s l = M at *
 obtain ⟨a, b, c1, d, e, f, g1, h8, rfl⟩ := eight hs
 clear hs
 show Calls Tryz.prog 175 #[.agg #[.int .u32 a, .int .u32 b, .int .u32 c1, .int .u32 d, .int .u32 e, .int .u32 f, .int .u32 g1, .int .u32 h8], .pointer (some ⟨kb, 0, none⟩), .slice (some ⟨g, o, none⟩) 64 c] w _
 go_enter Tryz.func175, Tryz.ntmps175
 go_wp2
 refine code_at (fun w1 => Below w.heap.size w w1 ∧ Blk w1 w.heap.size 219 (u32s [a, b, c1, d, e, f, g1, h8]) ∧ Blk w1 (w.heap.size + 1) 219 (u32s [0, 0, 0, 0, 0, 0, 0, 0]) ∧ Blk w1 (w.heap.size + 1 + 1) 220 (u32s (List.replicate 64 0))) (blk3 w _ _ _ _ _ _ _ rfl) ?_
 intro w1 hw1
 have HW := Lib.hid hw1
 clear hw1
 go_loopw [8] (fun v8 wr => ∃ (i : Nat), v8 = .int .i64 i ∧ i ≤ 16 ∧ Hid (Below w.heap.size w wr ∧ Blk wr w.heap.size 219 (u32s [a, b, c1, d, e, f, g1, h8]) ∧ Blk wr (w.heap.size + 1) 219 (u32s [0, 0, 0, 0, 0, 0, 0, 0]) ∧ Blk wr (w.heap.size + 1 + 1) 220 (u32s (words l i ++ List.replicate (64 - i) 0)))) (fun v _ => 16 - (intOf v).toNat)
 case atStart => exact ⟨0, rfl, by omega, HW⟩
 case round =>
  obtain ⟨i, rfl, hi, HI⟩ := hrel
  by_cases hlt : i < 16
  ·have hb := HI.out.2.2.2
   rw [rep_succ (63 - i) (64 - i) (by omega)] at hb
   have HB := Lib.hid hb
   clear hb
   have hgc : ∀ k (h : k < l.length), wr.cell? ⟨g, o + k, none⟩ = some (.int .u8 (l[k].toNat : Nat)) := fun k hk => (HI.out.1.cell (p := ⟨g, o + k, none⟩) hg).trans (HX.out.1 k hk)
   have p0 := hgc (4 * i) (by rw [HL.out.1]; omega)
   have p1 := hgc (4 * i + 1) (by rw [HL.out.1]; omega)
   have p2 := hgc (4 * i + 2) (by rw [HL.out.1]; omega)
   have p3 := hgc (4 * i + 3) (by rw [HL.out.1]; omega)
   clear hgc
   have HW4 := Lib.hid (wordAt4 l i (by rw [HL.out.1]; omega))
   have q0 := u32_mid HB.out (words_length l i)
   have ff : wr.drew.frozen? ⟨w.heap.size + 1 + 1, i, none⟩ = false := HB.out.free i
   have h0 := (l[4 * i]'(by rw [HL.out.1]; omega)).toNat_lt
   have h1 := (l[4 * i + 1]'(by rw [HL.out.1]; omega)).toNat_lt
   have h2 := (l[4 * i + 2]'(by rw [HL.out.1]; omega)).toNat_lt
   have h3 := (l[4 * i + 3]'(by rw [HL.out.1]; omega)).toNat_lt
   generalize l[4 * i]'(by rw [HL.out.1]; omega) = b0 at *
   generalize l[4 * i + 1]'(by rw [HL.out.1]; omega) = b1 at *
   generalize l[4 * i + 2]'(by rw [HL.out.1]; omega) = b2 at *
   generalize l[4 * i + 3]'(by rw [HL.out.1]; omega) = b3 at *
   have eb0 : ((b0.toNat : Nat) : Int) % 4294967296 = (b0.toNat : Nat) := by omega
   have eb1 : ((b1.toNat : Nat) : Int) % 4294967296 = (b1.toNat : Nat) := by omega
   have eb2 : ((b2.toNat : Nat) : Int) % 4294967296 = (b2.toNat : Nat) := by omega
   have eb3 : ((b3.toNat : Nat) : Int) % 4294967296 = (b3.toNat : Nat) := by omega
   go_wp2
   go_region
   go_wp2
   go_roundw
   case rel =>
    refine ⟨i + 1, by go_num, by omega, Lib.hid ⟨HI.out.1.drew.setCell (by simp; omega) _, Blk.setOther HI.out.2.1.drew _ _ (fun e => by have e' : w.heap.size = w.heap.size + 1 + 1 := e; omega), Blk.setOther HI.out.2.2.1.drew _ _ (fun e => by have e' : w.heap.size + 1 = w.heap.size + 1 + 1 := e; omega), ?_⟩⟩
    rw [words_succ, HW4.out, List.append_assoc, show 64 - (i + 1) = 63 - i by omega]
    exact (u32_put HB.out (words_length l i) _).drew
   case measure => simp [intOf]; omega
  ·obtain rfl : i = 16 := by omega
   rw [show ((16 : Nat) : Int) = 16 from rfl]
   go_wp2
   go_loopw [9] (fun v9 wr => ∃ (i : Nat), v9 = .int .i64 i ∧ 16 ≤ i ∧ i ≤ 64 ∧ Hid (Below w.heap.size w wr ∧ Blk wr w.heap.size 219 (u32s [a, b, c1, d, e, f, g1, h8]) ∧ Blk wr (w.heap.size + 1) 219 (u32s [0, 0, 0, 0, 0, 0, 0, 0]) ∧ Blk wr (w.heap.size + 1 + 1) 220 (u32s (sch (words l 16) (i - 16) ++ List.replicate (64 - i) 0)))) (fun v _ => 64 - (intOf v).toNat)
   case atStart => exact ⟨16, rfl, by omega, by omega, HI⟩
   case round =>
    clear HI
    obtain ⟨i, rfl, hi16, hi, HI⟩ := hrel
    have HLS : Hid ((sch (words l 16) (i - 16)).length = i) := Lib.hid (by rw [sch_length, words_length]; omega)
    by_cases hlt : i < 64
    ·have hb := HI.out.2.2.2
     rw [rep_succ (63 - i) (64 - i) (by omega)] at hb
     have HB := Lib.hid hb
     clear hb
     have q15 := u32_at HB.out (i - 15) (by rw [HLS.out]; omega)
     have q2 := u32_at HB.out (i - 2) (by rw [HLS.out]; omega)
     have q16 := u32_at HB.out (i - 16) (by rw [HLS.out]; omega)
     have q7 := u32_at HB.out (i - 7) (by rw [HLS.out]; omega)
     have q0 := u32_mid HB.out HLS.out
     have HN : Hid (nx (sch (words l 16) (i - 16)) = ((sch (words l 16) (i - 16)).getD (i - 16) 0 + sg0 ((sch (words l 16) (i - 16)).getD (i - 15) 0) + (sch (words l 16) (i - 16)).getD (i - 7) 0 + sg1 ((sch (words l 16) (i - 16)).getD (i - 2) 0)) % 4294967296) := Lib.hid (by unfold nx; rw [HLS.out])
     generalize (sch (words l 16) (i - 16)).getD (i - 15) 0 = x15 at *
     generalize (sch (words l 16) (i - 16)).getD (i - 2) 0 = x2 at *
     generalize (sch (words l 16) (i - 16)).getD (i - 16) 0 = x16 at *
     generalize (sch (words l 16) (i - 16)).getD (i - 7) 0 = x7 at *
     have t15 : ((i : Int) - 15).toNat = i - 15 := by omega
     have t2 : ((i : Int) - 2).toNat = i - 2 := by omega
     have t16 : ((i : Int) - 16).toNat = i - 16 := by omega
     have t7 : ((i : Int) - 7).toNat = i - 7 := by omega
     have b15 : (0 : Int) ≤ (i : Int) - 15 ∧ (i : Int) - 15 < 64 := by omega
     go_wp2
     go_quiet (fail)
     have e16 : IntKind.i64.wrap ((i : Int) - 16) = (i : Int) - 16 := IntWalk.i64_in _ (by omega)
     have e7 : IntKind.i64.wrap ((i : Int) - 7) = (i : Int) - 7 := IntWalk.i64_in _ (by omega)
     have b16 : (0 : Int) ≤ (i : Int) - 16 ∧ (i : Int) - 16 < 64 := by omega
     have b7 : (0 : Int) ≤ (i : Int) - 7 ∧ (i : Int) - 7 < 64 := by omega
     have b8 : (16 : Int) ≤ (i : Int) ∧ (7 : Int) ≤ (i : Int) ∧ (i : Int) < 80 ∧ (i : Int) < 71 ∧ (i : Int) < 64 + 16 ∧ (i : Int) < 64 + 7 := by omega
     obtain ⟨b81, b82, b83, b84, b85, b86⟩ := b8
     have HB2 := Lib.hid (HB.out.drewN nq)
     have HI2 := Lib.hid (And.intro (below_drewN HI.out.1 nq) (And.intro (HI.out.2.1.drewN nq) (HI.out.2.2.1.drewN nq)))
     have r16 : (wr.drewN nq).cell? ⟨w.heap.size + 1 + 1, i - 16, none⟩ = some (.int .u32 x16) := q16
     have r7 : (wr.drewN nq).cell? ⟨w.heap.size + 1 + 1, i - 7, none⟩ = some (.int .u32 x7) := q7
     have r0 : (wr.drewN nq).cell? ⟨w.heap.size + 1 + 1, i, none⟩ = some (.int .u32 0) := q0
     clear q15 q2 q16 q7 q0
     generalize wr.drewN nq = wz at *
     have ff : wz.drew.frozen? ⟨w.heap.size + 1 + 1, i, none⟩ = false := HB2.out.free i
     go_wp2
     refine wp_region_still_tail 29 (by kernel_rfl) (by kernel_rfl) ?_
     simp only [List.take_succ_cons, List.take_zero, List.drop_succ_cons, List.drop_zero]
     repeat (first | still_step | still_call (turn_s _ (by unfold TurnsZ; omega) _ _))
     refine wpStill_nil ?_
     go_wp2
     rw [show bits BinOp.xor IntKind.u32 (bits BinOp.xor IntKind.u32 (rotr 7 x15) (rotr 18 x15)) (x15 / 8) = sg0 x15 from rfl, show bits BinOp.xor IntKind.u32 (bits BinOp.xor IntKind.u32 (rotr 17 x2) (rotr 19 x2)) (x2 / 1024) = sg1 x2 from rfl]
     go_roundw
     case rel =>
      refine ⟨i + 1, by go_num, by omega, by omega, Lib.hid ⟨HI2.out.1.drew.setCell (by simp; omega) _, Blk.setOther HI2.out.2.1.drew _ _ (fun e => by have e' : w.heap.size = w.heap.size + 1 + 1 := e; omega), Blk.setOther HI2.out.2.2.drew _ _ (fun e => by have e' : w.heap.size + 1 = w.heap.size + 1 + 1 := e; omega), ?_⟩⟩
      rw [show i + 1 - 16 = i - 16 + 1 by omega]
      show Blk _ _ _ (u32s ((sch (words l 16) (i - 16) ++ [nx (sch (words l 16) (i - 16))]) ++ List.replicate (64 - (i + 1)) 0))
      rw [List.append_assoc, HN.out, show 64 - (i + 1) = 63 - i by omega]
      exact u32_put HB2.out.drew HLS.out _
     case measure => simp [intOf]; omega
    ·obtain rfl : i = 64 := by omega
     have hb1 : Blk wr (w.heap.size + 1 + 1) 220 (u32s (sched l)) := by
      have := HI.out.2.2.2
      rwa [show List.replicate (64 - 64) (0 : Int) = [] from rfl, List.append_nil] at this
     have HW := Lib.hid (And.intro HI.out.1 (And.intro HI.out.2.1 (And.intro HI.out.2.2.1 hb1)))
     clear hb1 HI HLS
     have HSL := Lib.hid (sched_length l)
     generalize sched l = W at *
     have HZ : Hid (wr.heap.size = wr.heap.size) := Lib.hid rfl
     have q0 := u32_get HW.out.2.1 0 (by simp)
     have q1 := u32_get HW.out.2.1 1 (by simp)
     have q2 := u32_get HW.out.2.1 2 (by simp)
     have q3 := u32_get HW.out.2.1 3 (by simp)
     have q4 := u32_get HW.out.2.1 4 (by simp)
     have q5 := u32_get HW.out.2.1 5 (by simp)
     have q6 := u32_get HW.out.2.1 6 (by simp)
     have q7 := u32_get HW.out.2.1 7 (by simp)
     simp only [List.getD_cons_zero, List.getD_cons_succ] at q0 q1 q2 q3 q4 q5 q6 q7
     rw [show ((64 : Nat) : Int) = 64 from rfl]
     go_wp2
     have hlt12 : w.heap.size + 1 + 1 < wr.heap.size := HW.out.2.2.2.lt
     have bel1 := (Below.refl wr.heap.size wr).alloc (Nat.le_refl _) (.cells (u32s [a, b, c1, d, e, f, g1, h8]).toArray 219)
     refine code_at (fun w1 => Below w.heap.size w w1 ∧ Blk w1 w.heap.size 219 (u32s [a, b, c1, d, e, f, g1, h8]) ∧ Blk w1 (w.heap.size + 1) 219 (u32s [0, 0, 0, 0, 0, 0, 0, 0]) ∧ Blk w1 (w.heap.size + 1 + 1) 220 (u32s W) ∧ Blk w1 wr.heap.size 219 (u32s [a, b, c1, d, e, f, g1, h8])) ⟨HW.out.1.trans (bel1.mono HW.out.1.size), HW.out.2.1.below bel1, HW.out.2.2.1.below bel1, HW.out.2.2.2.below bel1, Blk.new wr 219 (u32s [a, b, c1, d, e, f, g1, h8])⟩ ?_
     intro w2 hw2
     have HW2 := Lib.hid hw2
     clear hw2 bel1 q0 q1 q2 q3 q4 q5 q6 q7 HW HZ
     generalize wr.heap.size = B at *
     go_loopw [13] (fun v13 wr => ∃ (i : Nat), v13 = .int .i64 i ∧ i ≤ 64 ∧ Hid (Below w.heap.size w wr ∧ Blk wr w.heap.size 219 (u32s [a, b, c1, d, e, f, g1, h8]) ∧ Blk wr (w.heap.size + 1) 219 (u32s [0, 0, 0, 0, 0, 0, 0, 0]) ∧ Blk wr (w.heap.size + 1 + 1) 220 (u32s W) ∧ Blk wr B 219 (u32s (rnds K W [a, b, c1, d, e, f, g1, h8] i)))) (fun v _ => 64 - (intOf v).toNat)
     case atStart => exact ⟨0, rfl, by omega, HW2⟩
     case round =>
      clear HW2
      obtain ⟨i, rfl, hi, HI⟩ := hrel
      by_cases hlt : i < 64
      ·have hkc := u32_get (HX.out.2.chg (Chg.of_below (S := fun _ => False) HI.out.1) (fun h => h)) i (by rw [HL.out.2]; exact hlt)
       have hwc := u32_get HI.out.2.2.2.1 i (by rw [HSL.out]; exact hlt)
       have HR : Hid (rnds K W [a, b, c1, d, e, f, g1, h8] (i + 1) = rnd (rnds K W [a, b, c1, d, e, f, g1, h8] i) (K.getD i 0) (W.getD i 0)) := Lib.hid rfl
       have hlen := rnds_length K W [a, b, c1, d, e, f, g1, h8] rfl i
       generalize W.getD i 0 = wi at *
       generalize K.getD i 0 = ki at *
       generalize rnds K W [a, b, c1, d, e, f, g1, h8] i = S0 at *
       obtain ⟨A, B1, C, D, E, F, G, H, rfl⟩ := eight hlen
       clear hlen
       have q0 := u32_get HI.out.2.2.2.2 0 (by simp)
       have q1 := u32_get HI.out.2.2.2.2 1 (by simp)
       have q2 := u32_get HI.out.2.2.2.2 2 (by simp)
       have q3 := u32_get HI.out.2.2.2.2 3 (by simp)
       have q4 := u32_get HI.out.2.2.2.2 4 (by simp)
       have q5 := u32_get HI.out.2.2.2.2 5 (by simp)
       have q6 := u32_get HI.out.2.2.2.2 6 (by simp)
       have q7 := u32_get HI.out.2.2.2.2 7 (by simp)
       simp only [List.getD_cons_zero, List.getD_cons_succ] at q0 q1 q2 q3 q4 q5 q6 q7
       have ff : ∀ n k, (wr.drewN n).frozen? ⟨B, k, none⟩ = false := fun n k => HI.out.2.2.2.2.free k
       go_wp2
       go_quiet (fail)
       go_wp2
       go_quiet ((go_at_call 198; exact quiet_there (turn_any _ (by unfold TurnsZ; omega) _ _)))
       go_wp2
       go_quiet ((go_at_call 198; exact quiet_there (turn_any _ (by unfold TurnsZ; omega) _ _)))
       go_wp2
       go_roundw
       case rel =>
        refine ⟨i + 1, by go_num, by omega, Lib.hid ?_⟩
        rw [HR.out, rnd_other]
        have hz := below_drewN HI.out.1
        exact ⟨(hz _).trans ((chg_set8 _ _ _ _ _ _ _ _ _ _).below (hz _).size (fun k hk => by omega)), Blk.chg (HI.out.2.1.drewN _) (chg_set8 _ _ _ _ _ _ _ _ _ _) (by omega), Blk.chg (HI.out.2.2.1.drewN _) (chg_set8 _ _ _ _ _ _ _ _ _ _) (by omega), Blk.chg (HI.out.2.2.2.1.drewN _) (chg_set8 _ _ _ _ _ _ _ _ _ _) (by omega), blk_set8 (HI.out.2.2.2.2.drewN _) _ _ _ _ _ _ _ _⟩
       case measure => simp [intOf]; omega
      ·obtain rfl : i = 64 := by omega
       have hl8 := rnds_length K W [a, b, c1, d, e, f, g1, h8] rfl 64
       generalize rnds K W [a, b, c1, d, e, f, g1, h8] 64 = V at *
       have HV := Lib.hid hl8
       clear hl8 HSL
       rw [show ((64 : Nat) : Int) = 64 from rfl]
       go_wp2
       go_loopw [18] (fun v18 wr => ∃ (i : Nat), v18 = .int .i64 i ∧ i ≤ 8 ∧ Hid (Below w.heap.size w wr ∧ Blk wr w.heap.size 219 (u32s (M.take i ++ [a, b, c1, d, e, f, g1, h8].drop i)) ∧ Blk wr (w.heap.size + 1) 219 (u32s [0, 0, 0, 0, 0, 0, 0, 0]) ∧ Blk wr B 219 (u32s V))) (fun v _ => 8 - (intOf v).toNat)
       case atStart => exact ⟨0, rfl, by omega, Lib.hid ⟨HI.out.1, HI.out.2.1, HI.out.2.2.1, HI.out.2.2.2.2⟩⟩
       case round =>
        clear HI
        obtain ⟨i, rfl, hi, HI⟩ := hrel
        by_cases hlt : i < 8
        ·have hMi : Hid (M[i]'(by rw [HF.out]; exact hlt) = add32 ([a, b, c1, d, e, f, g1, h8].getD i 0) (V.getD i 0)) := Lib.hid (by
          have h1 : i < [a, b, c1, d, e, f, g1, h8].length := hlt
          have h2 : i < V.length := by rw [HV.out]; exact hlt
          simp only [HM.out, List.getElem_zipWith, List.getD_eq_getElem?_getD, List.getElem?_eq_getElem h1, List.getElem?_eq_getElem h2, Option.getD_some])
         have hcut : Hid (M.take i ++ [a, b, c1, d, e, f, g1, h8].drop i = M.take i ++ ([a, b, c1, d, e, f, g1, h8].getD i 0) :: [a, b, c1, d, e, f, g1, h8].drop (i + 1)) := Lib.hid (by
          have h1 : i < [a, b, c1, d, e, f, g1, h8].length := hlt
          rw [List.drop_eq_getElem_cons h1, List.getD_eq_getElem?_getD, List.getElem?_eq_getElem h1]; rfl)
         have hb := HI.out.2.1
         rw [hcut.out] at hb
         have hlen : (M.take i).length = i := by rw [List.length_take, HF.out]; omega
         have q0 := u32_mid hb hlen
         have HB := Lib.hid (And.intro hb hlen)
         clear hb hlen
         have q1 := u32_get HI.out.2.2.2 i (by rw [HV.out]; exact hlt)
         have ff : wr.drew.frozen? ⟨w.heap.size, i, none⟩ = false := HB.out.1.free i
         have HT : Hid (M.take (i + 1) = M.take i ++ [M[i]'(by rw [HF.out]; exact hlt)]) := Lib.hid (List.take_succ_eq_append_getElem (by rw [HF.out]; exact hlt))
         generalize [a, b, c1, d, e, f, g1, h8].getD i 0 = x at *
         generalize V.getD i 0 = y at *
         go_wp2
         go_region
         go_wp2
         go_roundw
         case rel =>
          refine ⟨i + 1, by go_num, by omega, Lib.hid ⟨HI.out.1.drew.setCell (Nat.le_refl _) _, ?_, Blk.setOther HI.out.2.2.1.drew _ _ (by simp), Blk.setOther HI.out.2.2.2.drew _ _ (fun e => by have e' : B = w.heap.size := e; omega)⟩⟩
          rw [HT.out, hMi.out, List.append_assoc]
          exact u32_put HB.out.1.drew HB.out.2 _
         case measure => simp [intOf]; omega
        ·obtain rfl : i = 8 := by omega
         have hb := HI.out.2.1
         rw [List.take_of_length_le (by rw [HF.out]; decide), show [a, b, c1, d, e, f, g1, h8].drop 8 = [] from rfl, List.append_nil] at hb
         have HB := Lib.hid (And.intro hb HI.out.2.2.1)
         have HBel := Lib.hid HI.out.1
         clear hb HI
         go_wp2_with (first
          | (refine wpList_load_row rfl 219 (.tmp 3) rfl w.heap.size rfl 219 (u32s M).toArray (0, 0) _ HB.out.1 under_row8 rfl (size_row8 M HF.out) ?_)
          | (refine wpList_store_row rfl 219 (.tmp 6) (.tmp 195) rfl (w.heap.size + 1) (u32s M).toArray rfl rfl 219 _ HB.out.2 (size_row8 M HF.out) (by simp [u32s, HF.out]) (u32s_one M) ?_))
         have hfin : Blk (wr.setRow (w.heap.size + 1) (u32s M).toArray) (w.heap.size + 1) 219 (u32s M) := blk_setRow HB.out.2 _
         refine bodyPost_ret (v := .agg (u32s M).toArray) ?_ ?_ ⟨rfl, ?_⟩
         ·exact results_cell_row Tryz.results175 _ _ (w.heap.size + 1) 219 _ (0, 0) _ rfl hfin under_row8 rfl (size_row8 M HF.out)
         ·rfl
         ·exact HBel.out.trans ((chg_setRow wr (w.heap.size + 1) _).below HBel.out.size (fun k hk => by omega))
end Go.Proofs.YtgeplpdcnanmnaaGreat
