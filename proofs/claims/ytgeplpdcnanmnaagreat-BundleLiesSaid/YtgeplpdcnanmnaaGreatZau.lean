/- The program's writer of bytes. Conditions: as each theorem states them. -/
import Derived.Test.YtgeplpdcnanmnaaGreatZaq
import Derived.Test.YtgeplpdcnanmnaaGreatZaa
namespace Go.Proofs.YtgeplpdcnanmnaaGreat
open Go.RowKit
set_option linter.unusedVariables false
set_option linter.unusedSimpArgs false

structure WrAt (w : World) (base b : Nat) (v : Value) (l : List UInt8) : Prop where
 blk : Blk w b 189 [v]
 own : OwnB w base v l
 ne : v.ownBlock ≠ some b
 le : base ≤ b
def WrX (w : World) (base b : Nat) (l : List UInt8) : Prop := ∃ v, WrAt w base b v l
theorem WrX.below {w w1 : World} {base b : Nat} {l : List UInt8} (h : WrX w base b l) (hb : Below w.heap.size w w1) : WrX w1 base b l := by
 obtain ⟨v, h1, h2, h3, h4⟩ := h
 exact ⟨v, h1.below hb, h2.keep hb, h3, h4⟩
theorem WrAt.after {w W : World} {base b : Nat} {v v2 : Value} {l m : List UInt8} (h : WrAt w base b v l) (o : OwnB W base v2 m) (hg : w.grownBy W v.ownBlock) (hlie : LieOf w v v2) :
  Blk W b 189 [v] ∧ WrX (W.setCell ⟨b, 0, none⟩ v2) base b m ∧ Below base w (W.setCell ⟨b, 0, none⟩ v2) := by
 have hne : v2.ownBlock ≠ some b := hlie.ne h.ne h.blk.lt
 have hb : Blk W b 189 [v] := h.blk.grown hg (fun e => h.ne e.symm)
 have hle := h.le
 have hlt := h.blk.lt
 exact ⟨hb, ⟨v2, hb.set 0 _ (by simp), ownsRow_set o _ _ (show v2.ownBlock ≠ some b from hne), hne, h.le⟩, ((Below.refl base w).grown hg (by omega) (fun k e => h.own.ge e)).setCell (show base ≤ b from hle) _⟩
theorem WrAt.after_new {w W : World} {base b : Nat} {v v2 : Value} {l m : List UInt8} {o : Obj} (h : WrAt w base b v l) (ho : OwnB W base v2 m) (hg : (w.alloc o).grownBy W v.ownBlock) (hlie : LieOf (w.alloc o) v v2) (hb : base ≤ w.heap.size) :
  Blk W b 189 [v] ∧ WrX (W.setCell ⟨b, 0, none⟩ v2) base b m ∧ Below base w (W.setCell ⟨b, 0, none⟩ v2) := by
 have h2 : WrAt (w.alloc o) base b v l := ⟨h.blk.alloc o, World.ownsRow.alloc h.own o, h.ne, h.le⟩
 obtain ⟨h3, h4, h5⟩ := h2.after ho hg hlie
 exact ⟨h3, h4, ((Below.refl base w).alloc hb o).trans h5⟩
theorem wnew_any (w : World) : Calls Tryz.prog 78 #[] w fun e w' => e = .returned (.pointer (some ⟨w.heap.size, 0, none⟩)) ∧ WrX w' w.heap.size w.heap.size [] ∧ Below w.heap.size w w' := by
 go_enter Tryz.func78, Tryz.ntmps78
 go_wp2
 go_ret
 exact ⟨rfl, ⟨_, Blk.new w 189 [.slice none 0 0], World.ownsRow_nil _ _ _ _, by simp [Value.ownBlock], Nat.le_refl _⟩, (Below.refl _ _).alloc (Nat.le_refl _) _⟩
theorem wdone_any (base b : Nat) (l : List UInt8) (hsm : l.length ≤ 1000000000) (w : World) (h : WrX w base b l) : Calls Tryz.prog 87 #[.pointer (some ⟨b, 0, none⟩)] w (RetB w l) := by
 obtain ⟨v, hk, ho, hne, hle⟩ := h
 obtain ⟨A, c, rfl⟩ := ho.form
 have HC := Lib.hid (clone_any _ l (by omega) w ho.bys)
 have q0 := hk.cell 0 _ rfl
 go_enter Tryz.func87, Tryz.ntmps87
 go_wp2_with fail
 refine HC.out.mono ?_
 rintro e w1 ⟨v1, rfl, h1, h2⟩
 have H1 := Lib.hid (And.intro h1 h2)
 clear h1 h2
 go_wp2
 go_ret
 exact ⟨_, rfl, H1.out.1, H1.out.2⟩
set_option maxHeartbeats 1000000 in
theorem wraw_any (base b : Nat) (l m : List UInt8) (u : Value) (hsm : l.length ≤ 1000000000) (hsm2 : m.length ≤ 1000000000) (w : World) (hbw : base ≤ w.heap.size) (h : WrX w base b l) (hu : Bys w u m) :
  Calls Tryz.prog 145 #[.pointer (some ⟨b, 0, none⟩), u] w fun e w' => e = .returned (.tuple #[]) ∧ WrX w' base b (l ++ m) ∧ Below base w w' := by
 obtain ⟨i0, hi0, hz0, hz1, hz2⟩ := info_parts info_u8
 obtain ⟨v, hw⟩ := h
 obtain ⟨A, c, rfl⟩ := hw.own.form
 obtain ⟨B, d, rfl⟩ := hu.form
 have q0 := hw.blk.cell 0 _ rfl
 have f0 := hw.blk.free 0
 have HW := Lib.hid (And.intro hw hu)
 clear hw hu
 go_enter Tryz.func145, Tryz.ntmps145
 go_wp2_with (at_builtin; (refine wpList_append_lie rfl (.tmp 8) (.tmp 9) 24 rfl base 5 i0 (.int .u8 0) 1 1 Tryz.underlying24 hi0 hz0 hz1 hz2 rfl (by decide) _ l.length (bys l) rfl HW.out.1.own _ m.length (bys m) rfl HW.out.2.news (by unfold maxLen; omega) (by omega) hbw ?_); intro v2 W2 hown2 hgrow2 hlie2; obtain ⟨A2, c2, rfl⟩ := (Sho.own hown2).form; have H2 := Lib.hid (HW.out.1.after (OwnB.append rfl hown2) hgrow2 hlie2); have q2 := H2.out.1.cell 0 _ rfl; have f2 := H2.out.1.free 0; clear hown2 hgrow2 hlie2)
 go_end0
 exact ⟨rfl, H2.out.2.1, H2.out.2.2⟩
set_option maxHeartbeats 4000000 in
theorem wnum4_any (base b : Nat) (l : List UInt8) (n : Int) (hn0 : 0 ≤ n) (hn1 : n < 4294967296) (hsm : l.length ≤ 1000000000) (w : World) (hbw : base ≤ w.heap.size) (h : WrX w base b l) :
    Calls Tryz.prog 144 #[.pointer (some ⟨b, 0, none⟩), .int .u32 n, .int .i64 4] w fun e w' => e = .returned (.tuple #[]) ∧ WrX w' base b (l ++ be4 n) ∧ Below base w w' := by
  obtain ⟨i0, hi0, hz0, hz1, hz2⟩ := info_parts info_u8
  have HX := Lib.hid h
  clear h
  go_enter Tryz.func144, Tryz.ntmps144
  go_wp2
  go_loopw [6] (fun v6 wr => ∃ (j : Nat) (i : Int), v6 = .int .i64 i ∧ (-1 ≤ i ∧ i ≤ 3) ∧ Hid (j ≤ 4 ∧ i = 3 - (j : Int) ∧ Below base w wr ∧ WrX wr base b (l ++ (be4 n).take j))) (fun v _ => (intOf v + 1).toNat)
  case atStart => exact ⟨0, 3, rfl, by decide, Lib.hid ⟨by decide, rfl, Below.refl _ _, by rw [List.take_zero, List.append_nil]; exact HX.out⟩⟩
  case round =>
    obtain ⟨j, i, rfl, hi, HJ⟩ := hrel
    obtain rfl | rfl | rfl | rfl | rfl : j = 0 ∨ j = 1 ∨ j = 2 ∨ j = 3 ∨ j = 4 := by have := HJ.out.1; omega
    · obtain rfl : i = 3 := by have := HJ.out.2.1; omega
      obtain ⟨v, hw⟩ := HJ.out.2.2.2
      obtain ⟨A, c, rfl⟩ := hw.own.form
      have q0 := hw.blk.cell 0 _ rfl
      have f0 := hw.blk.free 0
      have HT : Hid (l ++ (be4 n).take 1 = (l ++ (be4 n).take 0) ++ [ub (n / 16777216)]) := Lib.hid (by rw [List.append_assoc]; rfl)
      have hll : (l ++ (be4 n).take 0).length ≤ 1000000100 := by rw [List.length_append, List.length_take]; omega
      have eb : IntKind.u8.wrap (n / 16777216) = (((ub (n / 16777216)).toNat : Nat) : Int) := by rw [ub_val]; simp [IntKind.wrap, IntKind.bits, IntKind.signed]
      have ew : IntKind.i64.wrap 24 = 24 := by decide
      have HW := Lib.hid hw
      have hsz : base ≤ wr.heap.size := Nat.le_trans hbw HJ.out.2.2.1.size
      have hgb := hw.blk.lt
      clear hw
      generalize l ++ (be4 n).take 0 = D at *
      generalize ub (n / 16777216) = x at *
      go_wp2
      go_region_law (first
        | ((refine step_append_lie rfl (.tmp 17) (.tmp 23) 24 rfl base 5 i0 (.int .u8 0) 1 1 Tryz.underlying24 hi0 hz0 hz1 hz2 rfl (by decide) _ D.length (bys D) rfl (by first | exact World.ownsRow.alloc HW.out.own _ | exact HW.out.own) _ 1 (bys [x]) rfl (by first | exact Bys.new _ [x] 1 rfl (by decide) | exact Bys.new_drew _ [x] 1 rfl (by decide)) (by unfold maxLen; omega) (by omega) (by simp; omega) ?_); intro v2 W2 hown2 hgrow2 hlie2
           obtain ⟨A2, c2, rfl⟩ := (Sho.own hown2).form
           have H2 := Lib.hid (WrAt.after_new HW.out (OwnB.append rfl hown2) ⟨hgrow2.os, hgrow2.tape, hgrow2.output, hgrow2.size, hgrow2.block⟩ hlie2 hsz)
           have q2 := H2.out.1.cell 0 _ rfl
           have f2 := H2.out.1.free 0
           clear hown2 hgrow2 hlie2))
      all_goals
        go_wp2
        go_roundw
        case rel => exact ⟨1, 2, rfl, by decide, Lib.hid ⟨by decide, by decide, HJ.out.2.2.1.trans H2.out.2.2, by rw [HT.out]; exact H2.out.2.1⟩⟩
        case measure => simp [intOf]
    · obtain rfl : i = 2 := by have := HJ.out.2.1; omega
      obtain ⟨v, hw⟩ := HJ.out.2.2.2
      obtain ⟨A, c, rfl⟩ := hw.own.form
      have q0 := hw.blk.cell 0 _ rfl
      have f0 := hw.blk.free 0
      have HT : Hid (l ++ (be4 n).take 2 = (l ++ (be4 n).take 1) ++ [ub (n / 65536)]) := Lib.hid (by rw [List.append_assoc]; rfl)
      have hll : (l ++ (be4 n).take 1).length ≤ 1000000100 := by rw [List.length_append, List.length_take]; omega
      have eb : IntKind.u8.wrap (n / 65536) = (((ub (n / 65536)).toNat : Nat) : Int) := by rw [ub_val]; simp [IntKind.wrap, IntKind.bits, IntKind.signed]
      have ew : IntKind.i64.wrap 16 = 16 := by decide
      have HW := Lib.hid hw
      have hsz : base ≤ wr.heap.size := Nat.le_trans hbw HJ.out.2.2.1.size
      have hgb := hw.blk.lt
      clear hw
      generalize l ++ (be4 n).take 1 = D at *
      generalize ub (n / 65536) = x at *
      go_wp2
      go_region_law (first
        | ((refine step_append_lie rfl (.tmp 17) (.tmp 23) 24 rfl base 5 i0 (.int .u8 0) 1 1 Tryz.underlying24 hi0 hz0 hz1 hz2 rfl (by decide) _ D.length (bys D) rfl (by first | exact World.ownsRow.alloc HW.out.own _ | exact HW.out.own) _ 1 (bys [x]) rfl (by first | exact Bys.new _ [x] 1 rfl (by decide) | exact Bys.new_drew _ [x] 1 rfl (by decide)) (by unfold maxLen; omega) (by omega) (by simp; omega) ?_); intro v2 W2 hown2 hgrow2 hlie2
           obtain ⟨A2, c2, rfl⟩ := (Sho.own hown2).form
           have H2 := Lib.hid (WrAt.after_new HW.out (OwnB.append rfl hown2) ⟨hgrow2.os, hgrow2.tape, hgrow2.output, hgrow2.size, hgrow2.block⟩ hlie2 hsz)
           have q2 := H2.out.1.cell 0 _ rfl
           have f2 := H2.out.1.free 0
           clear hown2 hgrow2 hlie2))
      all_goals
        go_wp2
        go_roundw
        case rel => exact ⟨2, 1, rfl, by decide, Lib.hid ⟨by decide, by decide, HJ.out.2.2.1.trans H2.out.2.2, by rw [HT.out]; exact H2.out.2.1⟩⟩
        case measure => simp [intOf]
    · obtain rfl : i = 1 := by have := HJ.out.2.1; omega
      obtain ⟨v, hw⟩ := HJ.out.2.2.2
      obtain ⟨A, c, rfl⟩ := hw.own.form
      have q0 := hw.blk.cell 0 _ rfl
      have f0 := hw.blk.free 0
      have HT : Hid (l ++ (be4 n).take 3 = (l ++ (be4 n).take 2) ++ [ub (n / 256)]) := Lib.hid (by rw [List.append_assoc]; rfl)
      have hll : (l ++ (be4 n).take 2).length ≤ 1000000100 := by rw [List.length_append, List.length_take]; omega
      have eb : IntKind.u8.wrap (n / 256) = (((ub (n / 256)).toNat : Nat) : Int) := by rw [ub_val]; simp [IntKind.wrap, IntKind.bits, IntKind.signed]
      have ew : IntKind.i64.wrap 8 = 8 := by decide
      have HW := Lib.hid hw
      have hsz : base ≤ wr.heap.size := Nat.le_trans hbw HJ.out.2.2.1.size
      have hgb := hw.blk.lt
      clear hw
      generalize l ++ (be4 n).take 2 = D at *
      generalize ub (n / 256) = x at *
      go_wp2
      go_region_law (first
        | ((refine step_append_lie rfl (.tmp 17) (.tmp 23) 24 rfl base 5 i0 (.int .u8 0) 1 1 Tryz.underlying24 hi0 hz0 hz1 hz2 rfl (by decide) _ D.length (bys D) rfl (by first | exact World.ownsRow.alloc HW.out.own _ | exact HW.out.own) _ 1 (bys [x]) rfl (by first | exact Bys.new _ [x] 1 rfl (by decide) | exact Bys.new_drew _ [x] 1 rfl (by decide)) (by unfold maxLen; omega) (by omega) (by simp; omega) ?_); intro v2 W2 hown2 hgrow2 hlie2
           obtain ⟨A2, c2, rfl⟩ := (Sho.own hown2).form
           have H2 := Lib.hid (WrAt.after_new HW.out (OwnB.append rfl hown2) ⟨hgrow2.os, hgrow2.tape, hgrow2.output, hgrow2.size, hgrow2.block⟩ hlie2 hsz)
           have q2 := H2.out.1.cell 0 _ rfl
           have f2 := H2.out.1.free 0
           clear hown2 hgrow2 hlie2))
      all_goals
        go_wp2
        go_roundw
        case rel => exact ⟨3, 0, rfl, by decide, Lib.hid ⟨by decide, by decide, HJ.out.2.2.1.trans H2.out.2.2, by rw [HT.out]; exact H2.out.2.1⟩⟩
        case measure => simp [intOf]
    · obtain rfl : i = 0 := by have := HJ.out.2.1; omega
      obtain ⟨v, hw⟩ := HJ.out.2.2.2
      obtain ⟨A, c, rfl⟩ := hw.own.form
      have q0 := hw.blk.cell 0 _ rfl
      have f0 := hw.blk.free 0
      have HT : Hid (l ++ (be4 n).take 4 = (l ++ (be4 n).take 3) ++ [ub (n)]) := Lib.hid (by rw [List.append_assoc]; rfl)
      have hll : (l ++ (be4 n).take 3).length ≤ 1000000100 := by rw [List.length_append, List.length_take]; omega
      have eb : IntKind.u8.wrap (n) = (((ub (n)).toNat : Nat) : Int) := by rw [ub_val]; simp [IntKind.wrap, IntKind.bits, IntKind.signed]
      have ew : IntKind.i64.wrap 0 = 0 := by decide
      have HW := Lib.hid hw
      have hsz : base ≤ wr.heap.size := Nat.le_trans hbw HJ.out.2.2.1.size
      have hgb := hw.blk.lt
      clear hw
      generalize l ++ (be4 n).take 3 = D at *
      generalize ub (n) = x at *
      go_wp2
      go_region_law (first
        | ((refine step_append_lie rfl (.tmp 17) (.tmp 23) 24 rfl base 5 i0 (.int .u8 0) 1 1 Tryz.underlying24 hi0 hz0 hz1 hz2 rfl (by decide) _ D.length (bys D) rfl (by first | exact World.ownsRow.alloc HW.out.own _ | exact HW.out.own) _ 1 (bys [x]) rfl (by first | exact Bys.new _ [x] 1 rfl (by decide) | exact Bys.new_drew _ [x] 1 rfl (by decide)) (by unfold maxLen; omega) (by omega) (by simp; omega) ?_); intro v2 W2 hown2 hgrow2 hlie2
           obtain ⟨A2, c2, rfl⟩ := (Sho.own hown2).form
           have H2 := Lib.hid (WrAt.after_new HW.out (OwnB.append rfl hown2) ⟨hgrow2.os, hgrow2.tape, hgrow2.output, hgrow2.size, hgrow2.block⟩ hlie2 hsz)
           have q2 := H2.out.1.cell 0 _ rfl
           have f2 := H2.out.1.free 0
           clear hown2 hgrow2 hlie2))
      all_goals
        go_wp2
        go_roundw
        case rel => exact ⟨4, -1, rfl, by decide, Lib.hid ⟨by decide, by decide, HJ.out.2.2.1.trans H2.out.2.2, by rw [HT.out]; exact H2.out.2.1⟩⟩
        case measure => simp [intOf]
    · obtain rfl : i = -1 := by have := HJ.out.2.1; omega
      have HB := Lib.hid (And.intro HJ.out.2.2.2 HJ.out.2.2.1)
      clear HJ
      go_wp2
      go_end0
      exact ⟨rfl, by have h := HB.out.1; rwa [List.take_of_length_le (by rw [be4_length]; decide)] at h, HB.out.2⟩
theorem wnum_any (base b : Nat) (l : List UInt8) (n : Int) (hn0 : 0 ≤ n) (hn1 : n < 4294967296) (hsm : l.length ≤ 1000000000) (w : World) (hbw : base ≤ w.heap.size) (h : WrX w base b l) :
  Calls Tryz.prog 80 #[.pointer (some ⟨b, 0, none⟩), .int .u32 n] w fun e w' => e = .returned (.tuple #[]) ∧ WrX w' base b (l ++ be4 n) ∧ Below base w w' := by
 have H := Lib.hid (wnum4_any base b l n hn0 hn1 hsm w hbw h)
 clear h
 go_enter Tryz.func80, Tryz.ntmps80
 go_wp2_with fail
 refine H.out.mono ?_
 rintro e w1 ⟨rfl, h1, h2⟩
 have H1 := Lib.hid (And.intro h1 h2)
 clear h1 h2
 go_wp2
 go_end0
 exact ⟨rfl, H1.out.1, H1.out.2⟩
end Go.Proofs.YtgeplpdcnanmnaaGreat
