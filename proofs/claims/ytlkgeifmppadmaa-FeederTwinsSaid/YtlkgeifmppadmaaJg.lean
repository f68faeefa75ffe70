/- The program's writer of bytes. The program's checkpoints: Right, what is signed and cosigned. The program's copies of signatures, checkpoints, cosignatures. The program's policies: Right. The program's policies: Right (the walk). Conditions: as each theorem states them. -/
import Derived.Test.YtlkgeifmppadmaaJe
import Derived.Test.YtlkgeifmppadmaaJf
import Derived.Test.YtlkgeifmppadmaaJd
import Derived.Lib.SlBytesConst
import Derived.Test.YtlkgeifmppadmaaJc
namespace Go.Proofs.Ytlkgeifmppadmaa
open Go.RowKit
set_option linter.unusedVariables false
set_option linter.unusedSimpArgs false

/-- A writer at block b holds the bytes l. -/
structure WrAt (w : World) (base b : Nat) (v : Value) (l : List UInt8) : Prop where
  blk : Blk w b 150 [v]
  own : OwnB w base v l
  ne : v.ownBlock ≠ some b
  le : base ≤ b
/-- The same, whatever its slice. -/
def WrX (w : World) (base b : Nat) (l : List UInt8) : Prop := ∃ v, WrAt w base b v l
theorem WrX.below {w w1 : World} {base b : Nat} {l : List UInt8} (h : WrX w base b l) (hb : Below w.heap.size w w1) : WrX w1 base b l := by
  obtain ⟨v, h1, h2, h3, h4⟩ := h
  exact ⟨v, h1.below hb, h2.keep hb, h3, h4⟩
theorem WrAt.after {w W : World} {base b : Nat} {v v2 : Value} {l m : List UInt8} (h : WrAt w base b v l) (o : OwnB W base v2 m) (hg : w.grownBy W v.ownBlock) (hlie : LieOf w v v2) :
    Blk W b 150 [v] ∧ WrX (W.setCell ⟨b, 0, none⟩ v2) base b m ∧ Below base w (W.setCell ⟨b, 0, none⟩ v2) := by
  have hne : v2.ownBlock ≠ some b := hlie.ne h.ne h.blk.lt
  have hb : Blk W b 150 [v] := h.blk.grown hg (fun e => h.ne e.symm)
  have hle := h.le
  have hlt := h.blk.lt
  exact ⟨hb, ⟨v2, hb.set 0 _ (by simp), ownsRow_set o _ _ (show v2.ownBlock ≠ some b from hne), hne, h.le⟩, ((Below.refl base w).grown hg (by omega) (fun k e => h.own.ge e)).setCell (show base ≤ b from hle) _⟩
theorem WrAt.after_new {w W : World} {base b : Nat} {v v2 : Value} {l m : List UInt8} {o : Obj} (h : WrAt w base b v l) (ho : OwnB W base v2 m) (hg : (w.alloc o).grownBy W v.ownBlock) (hlie : LieOf (w.alloc o) v v2) (hb : base ≤ w.heap.size) :
    Blk W b 150 [v] ∧ WrX (W.setCell ⟨b, 0, none⟩ v2) base b m ∧ Below base w (W.setCell ⟨b, 0, none⟩ v2) := by
  have h2 : WrAt (w.alloc o) base b v l := ⟨h.blk.alloc o, World.ownsRow.alloc h.own o, h.ne, h.le⟩
  obtain ⟨h3, h4, h5⟩ := h2.after ho hg hlie
  exact ⟨h3, h4, ((Below.refl base w).alloc hb o).trans h5⟩
theorem wnew_any (w : World) : Calls Try.prog 75 #[] w fun e w' => e = .returned (.pointer (some ⟨w.heap.size, 0, none⟩)) ∧ WrX w' w.heap.size w.heap.size [] ∧ Below w.heap.size w w' := by
  go_enter Try.func75, Try.ntmps75
  go_wp2
  go_ret
  exact ⟨rfl, ⟨_, Blk.new w 150 [.slice none 0 0], World.ownsRow_nil _ _ _ _, by simp [Value.ownBlock], Nat.le_refl _⟩, (Below.refl _ _).alloc (Nat.le_refl _) _⟩
theorem wdone_any (base b : Nat) (l : List UInt8) (hsm : l.length ≤ 1000000000) (w : World) (h : WrX w base b l) : Calls Try.prog 78 #[.pointer (some ⟨b, 0, none⟩)] w (RetB w l) := by
  obtain ⟨v, hk, ho, hne, hle⟩ := h
  obtain ⟨A, c, rfl⟩ := ho.form
  have HC := Lib.hid (clone_any _ l (by omega) w ho.bys)
  have q0 := hk.cell 0 _ rfl
  go_enter Try.func78, Try.ntmps78
  go_wp2_with fail
  refine HC.out.mono ?_
  rintro e w1 ⟨v1, rfl, h1, h2⟩
  have H1 := Lib.hid (And.intro h1 h2)
  clear h1 h2
  go_wp2
  go_ret
  exact ⟨_, rfl, H1.out.1, H1.out.2⟩
set_option maxHeartbeats 1000000 in
theorem wraw_any (base b : Nat) (l m : List UInt8) (u : Value) (hsm : l.length ≤ 1000000000) (hsm2 : m.length ≤ 1000000000) (w : World) (hbw : base ≤ w.heap.size) (h : WrX w base b l) (hu : Bys w u m) :
    Calls Try.prog 76 #[.pointer (some ⟨b, 0, none⟩), u] w fun e w' => e = .returned (.tuple #[]) ∧ WrX w' base b (l ++ m) ∧ Below base w w' := by
  obtain ⟨i0, hi0, hz0, hz1, hz2⟩ := info_parts info_u8
  obtain ⟨v, hw⟩ := h
  obtain ⟨A, c, rfl⟩ := hw.own.form
  obtain ⟨B, d, rfl⟩ := hu.form
  have q0 := hw.blk.cell 0 _ rfl
  have f0 := hw.blk.free 0
  have HW := Lib.hid (And.intro hw hu)
  clear hw hu
  go_enter Try.func76, Try.ntmps76
  go_wp2_with (at_builtin; (refine wpList_append_lie rfl (.tmp 8) (.tmp 9) 30 rfl base 5 i0 (.int .u8 0) 1 1 Try.underlying30 hi0 hz0 hz1 hz2 rfl (by decide) _ l.length (bys l) rfl HW.out.1.own _ m.length (bys m) rfl HW.out.2.news (by unfold maxLen; omega) (by omega) hbw ?_); intro v2 W2 hown2 hgrow2 hlie2; obtain ⟨A2, c2, rfl⟩ := (Sho.own hown2).form; have H2 := Lib.hid (HW.out.1.after (OwnB.append rfl hown2) hgrow2 hlie2); have q2 := H2.out.1.cell 0 _ rfl; have f2 := H2.out.1.free 0; clear hown2 hgrow2 hlie2)
  go_end0
  exact ⟨rfl, H2.out.2.1, H2.out.2.2⟩
set_option maxHeartbeats 4000000 in
theorem wnum4_any (base b : Nat) (l : List UInt8) (n : Int) (hn0 : 0 ≤ n) (hn1 : n < 4294967296) (hsm : l.length ≤ 1000000000) (w : World) (hbw : base ≤ w.heap.size) (h : WrX w base b l) :
    Calls Try.prog 90 #[.pointer (some ⟨b, 0, none⟩), .int .u32 n, .int .i64 4] w fun e w' => e = .returned (.tuple #[]) ∧ WrX w' base b (l ++ be4 n) ∧ Below base w w' := by
  obtain ⟨i0, hi0, hz0, hz1, hz2⟩ := info_parts info_u8
  have HX := Lib.hid h
  clear h
  go_enter Try.func90, Try.ntmps90
  go_wp2
  go_loopw [6] (fun v6 wr => ∃ (j : Nat) (i : Int), v6 = .int .i64 i ∧ (-1 ≤ i ∧ i ≤ 3) ∧ Hid (j ≤ 4 ∧ i = 3 - (j : Int) ∧ Below base w wr ∧ WrX wr base b (l ++ (be4 n).take j))) (fun v _ => (intOf v + 1).toNat)
  case atStart => exact ⟨0, 3, rfl, by decide, Lib.hid ⟨by decide, rfl, Below.refl _ _, by rw [List.take_zero, List.append_nil]; exact HX.out⟩⟩
  case round =>
    obtain ⟨j, i, rfl, hi, HJ⟩ := hrel
    obtain rfl | rfl | rfl | rfl | rfl : j = 0 ∨ j = 1 ∨ j = 2 ∨ j = 3 ∨ j = 4 := by have := HJ.out.1; omega
    · obtain rfl : i = 3 := by have := HJ.out.2.1; omega
      obtain ⟨v, hw⟩ := HJ.out.2.2.2
      obtain ⟨A, c, rfl⟩ := hw.own.form
      have q0 := hw.blk.cell 0 _ rfl
      have f0 := hw.blk.free 0
      have HT : Hid (l ++ (be4 n).take 1 = (l ++ (be4 n).take 0) ++ [ub (n / 16777216)]) := Lib.hid (by rw [List.append_assoc]; rfl)
      have hll : (l ++ (be4 n).take 0).length ≤ 1000000100 := by rw [List.length_append, List.length_take]; omega
      have eb : IntKind.u8.wrap (n / 16777216) = (((ub (n / 16777216)).toNat : Nat) : Int) := by rw [ub_val]; simp [IntKind.wrap, IntKind.bits, IntKind.signed]
      have ew : IntKind.i64.wrap 24 = 24 := by decide
      have HW := Lib.hid hw
      have hsz : base ≤ wr.heap.size := Nat.le_trans hbw HJ.out.2.2.1.size
      have hgb := hw.blk.lt
      clear hw
      generalize l ++ (be4 n).take 0 = D at *
      generalize ub (n / 16777216) = x at *
      go_wp2
      go_region_law (first
        | ((refine step_append_lie rfl (.tmp 17) (.tmp 23) 30 rfl base 5 i0 (.int .u8 0) 1 1 Try.underlying30 hi0 hz0 hz1 hz2 rfl (by decide) _ D.length (bys D) rfl (by first | exact World.ownsRow.alloc HW.out.own _ | exact HW.out.own) _ 1 (bys [x]) rfl (by first | exact Bys.new _ [x] 1 rfl (by decide) | exact Bys.new_drew _ [x] 1 rfl (by decide)) (by unfold maxLen; omega) (by omega) (by simp; omega) ?_); intro v2 W2 hown2 hgrow2 hlie2
           obtain ⟨A2, c2, rfl⟩ := (Sho.own hown2).form
           have H2 := Lib.hid (WrAt.after_new HW.out (OwnB.append rfl hown2) ⟨hgrow2.os, hgrow2.tape, hgrow2.output, hgrow2.size, hgrow2.block⟩ hlie2 hsz)
           have q2 := H2.out.1.cell 0 _ rfl
           have f2 := H2.out.1.free 0
           clear hown2 hgrow2 hlie2))
      all_goals
        go_wp2
        go_roundw
        case rel => exact ⟨1, 2, rfl, by decide, Lib.hid ⟨by decide, by decide, HJ.out.2.2.1.trans H2.out.2.2, by rw [HT.out]; exact H2.out.2.1⟩⟩
        case measure => simp [intOf]
    · obtain rfl : i = 2 := by have := HJ.out.2.1; omega
      obtain ⟨v, hw⟩ := HJ.out.2.2.2
      obtain ⟨A, c, rfl⟩ := hw.own.form
      have q0 := hw.blk.cell 0 _ rfl
      have f0 := hw.blk.free 0
      have HT : Hid (l ++ (be4 n).take 2 = (l ++ (be4 n).take 1) ++ [ub (n / 65536)]) := Lib.hid (by rw [List.append_assoc]; rfl)
      have hll : (l ++ (be4 n).take 1).length ≤ 1000000100 := by rw [List.length_append, List.length_take]; omega
      have eb : IntKind.u8.wrap (n / 65536) = (((ub (n / 65536)).toNat : Nat) : Int) := by rw [ub_val]; simp [IntKind.wrap, IntKind.bits, IntKind.signed]
      have ew : IntKind.i64.wrap 16 = 16 := by decide
      have HW := Lib.hid hw
      have hsz : base ≤ wr.heap.size := Nat.le_trans hbw HJ.out.2.2.1.size
      have hgb := hw.blk.lt
      clear hw
      generalize l ++ (be4 n).take 1 = D at *
      generalize ub (n / 65536) = x at *
      go_wp2
      go_region_law (first
        | ((refine step_append_lie rfl (.tmp 17) (.tmp 23) 30 rfl base 5 i0 (.int .u8 0) 1 1 Try.underlying30 hi0 hz0 hz1 hz2 rfl (by decide) _ D.length (bys D) rfl (by first | exact World.ownsRow.alloc HW.out.own _ | exact HW.out.own) _ 1 (bys [x]) rfl (by first | exact Bys.new _ [x] 1 rfl (by decide) | exact Bys.new_drew _ [x] 1 rfl (by decide)) (by unfold maxLen; omega) (by omega) (by simp; omega) ?_); intro v2 W2 hown2 hgrow2 hlie2
           obtain ⟨A2, c2, rfl⟩ := (Sho.own hown2).form
           have H2 := Lib.hid (WrAt.after_new HW.out (OwnB.append rfl hown2) ⟨hgrow2.os, hgrow2.tape, hgrow2.output, hgrow2.size, hgrow2.block⟩ hlie2 hsz)
           have q2 := H2.out.1.cell 0 _ rfl
           have f2 := H2.out.1.free 0
           clear hown2 hgrow2 hlie2))
      all_goals
        go_wp2
        go_roundw
        case rel => exact ⟨2, 1, rfl, by decide, Lib.hid ⟨by decide, by decide, HJ.out.2.2.1.trans H2.out.2.2, by rw [HT.out]; exact H2.out.2.1⟩⟩
        case measure => simp [intOf]
    · obtain rfl : i = 1 := by have := HJ.out.2.1; omega
      obtain ⟨v, hw⟩ := HJ.out.2.2.2
      obtain ⟨A, c, rfl⟩ := hw.own.form
      have q0 := hw.blk.cell 0 _ rfl
      have f0 := hw.blk.free 0
      have HT : Hid (l ++ (be4 n).take 3 = (l ++ (be4 n).take 2) ++ [ub (n / 256)]) := Lib.hid (by rw [List.append_assoc]; rfl)
      have hll : (l ++ (be4 n).take 2).length ≤ 1000000100 := by rw [List.length_append, List.length_take]; omega
      have eb : IntKind.u8.wrap (n / 256) = (((ub (n / 256)).toNat : Nat) : Int) := by rw [ub_val]; simp [IntKind.wrap, IntKind.bits, IntKind.signed]
      have ew : IntKind.i64.wrap 8 = 8 := by decide
      have HW := Lib.hid hw
      have hsz : base ≤ wr.heap.size := Nat.le_trans hbw HJ.out.2.2.1.size
      have hgb := hw.blk.lt
      clear hw
      generalize l ++ (be4 n).take 2 = D at *
      generalize ub (n / 256) = x at *
      go_wp2
      go_region_law (first
        | ((refine step_append_lie rfl (.tmp 17) (.tmp 23) 30 rfl base 5 i0 (.int .u8 0) 1 1 Try.underlying30 hi0 hz0 hz1 hz2 rfl (by decide) _ D.length (bys D) rfl (by first | exact World.ownsRow.alloc HW.out.own _ | exact HW.out.own) _ 1 (bys [x]) rfl (by first | exact Bys.new _ [x] 1 rfl (by decide) | exact Bys.new_drew _ [x] 1 rfl (by decide)) (by unfold maxLen; omega) (by omega) (by simp; omega) ?_); intro v2 W2 hown2 hgrow2 hlie2
           obtain ⟨A2, c2, rfl⟩ := (Sho.own hown2).form
           have H2 := Lib.hid (WrAt.after_new HW.out (OwnB.append rfl hown2) ⟨hgrow2.os, hgrow2.tape, hgrow2.output, hgrow2.size, hgrow2.block⟩ hlie2 hsz)
           have q2 := H2.out.1.cell 0 _ rfl
           have f2 := H2.out.1.free 0
           clear hown2 hgrow2 hlie2))
      all_goals
        go_wp2
        go_roundw
        case rel => exact ⟨3, 0, rfl, by decide, Lib.hid ⟨by decide, by decide, HJ.out.2.2.1.trans H2.out.2.2, by rw [HT.out]; exact H2.out.2.1⟩⟩
        case measure => simp [intOf]
    · obtain rfl : i = 0 := by have := HJ.out.2.1; omega
      obtain ⟨v, hw⟩ := HJ.out.2.2.2
      obtain ⟨A, c, rfl⟩ := hw.own.form
      have q0 := hw.blk.cell 0 _ rfl
      have f0 := hw.blk.free 0
      have HT : Hid (l ++ (be4 n).take 4 = (l ++ (be4 n).take 3) ++ [ub (n)]) := Lib.hid (by rw [List.append_assoc]; rfl)
      have hll : (l ++ (be4 n).take 3).length ≤ 1000000100 := by rw [List.length_append, List.length_take]; omega
      have eb : IntKind.u8.wrap (n) = (((ub (n)).toNat : Nat) : Int) := by rw [ub_val]; simp [IntKind.wrap, IntKind.bits, IntKind.signed]
      have ew : IntKind.i64.wrap 0 = 0 := by decide
      have HW := Lib.hid hw
      have hsz : base ≤ wr.heap.size := Nat.le_trans hbw HJ.out.2.2.1.size
      have hgb := hw.blk.lt
      clear hw
      generalize l ++ (be4 n).take 3 = D at *
      generalize ub (n) = x at *
      go_wp2
      go_region_law (first
        | ((refine step_append_lie rfl (.tmp 17) (.tmp 23) 30 rfl base 5 i0 (.int .u8 0) 1 1 Try.underlying30 hi0 hz0 hz1 hz2 rfl (by decide) _ D.length (bys D) rfl (by first | exact World.ownsRow.alloc HW.out.own _ | exact HW.out.own) _ 1 (bys [x]) rfl (by first | exact Bys.new _ [x] 1 rfl (by decide) | exact Bys.new_drew _ [x] 1 rfl (by decide)) (by unfold maxLen; omega) (by omega) (by simp; omega) ?_); intro v2 W2 hown2 hgrow2 hlie2
           obtain ⟨A2, c2, rfl⟩ := (Sho.own hown2).form
           have H2 := Lib.hid (WrAt.after_new HW.out (OwnB.append rfl hown2) ⟨hgrow2.os, hgrow2.tape, hgrow2.output, hgrow2.size, hgrow2.block⟩ hlie2 hsz)
           have q2 := H2.out.1.cell 0 _ rfl
           have f2 := H2.out.1.free 0
           clear hown2 hgrow2 hlie2))
      all_goals
        go_wp2
        go_roundw
        case rel => exact ⟨4, -1, rfl, by decide, Lib.hid ⟨by decide, by decide, HJ.out.2.2.1.trans H2.out.2.2, by rw [HT.out]; exact H2.out.2.1⟩⟩
        case measure => simp [intOf]
    · obtain rfl : i = -1 := by have := HJ.out.2.1; omega
      have HB := Lib.hid (And.intro HJ.out.2.2.2 HJ.out.2.2.1)
      clear HJ
      go_wp2
      go_end0
      exact ⟨rfl, by have h := HB.out.1; rwa [List.take_of_length_le (by rw [be4_length]; decide)] at h, HB.out.2⟩
theorem wnum_any (base b : Nat) (l : List UInt8) (n : Int) (hn0 : 0 ≤ n) (hn1 : n < 4294967296) (hsm : l.length ≤ 1000000000) (w : World) (hbw : base ≤ w.heap.size) (h : WrX w base b l) :
    Calls Try.prog 77 #[.pointer (some ⟨b, 0, none⟩), .int .u32 n] w fun e w' => e = .returned (.tuple #[]) ∧ WrX w' base b (l ++ be4 n) ∧ Below base w w' := by
  have H := Lib.hid (wnum4_any base b l n hn0 hn1 hsm w hbw h)
  clear h
  go_enter Try.func77, Try.ntmps77
  go_wp2_with fail
  refine H.out.mono ?_
  rintro e w1 ⟨rfl, h1, h2⟩
  have H1 := Lib.hid (And.intro h1 h2)
  clear h1 h2
  go_wp2
  go_end0
  exact ⟨rfl, H1.out.1, H1.out.2⟩
end Go.Proofs.Ytlkgeifmppadmaa
namespace Go.Proofs.Ytlkgeifmppadmaa
open Go.RowKit
set_option linter.unusedVariables false
set_option linter.unusedSimpArgs false

set_option maxRecDepth 100000 in
theorem pckright_any (v : Value) (c : CkD) (hl : c.root.length ≤ 1000000000) (w : World) (hv : CkV w v c) :
    Calls Try.prog 54 #[v] w fun e w' => e = .returned (.bool (ckB c)) ∧ Below w.heap.size w w' := by
  obtain ⟨p, rfl, h1⟩ := hv
  obtain ⟨P, cp, rfl⟩ := h1.form
  have HB0 := Lib.hid ((Below.refl w.heap.size w).alloc (Nat.le_refl _) (.cells #[.int .i64 c.num, .slice P c.root.length cp] 36))
  have HRB : Hid (ckB c = (decide (0 ≤ c.num) && decide (c.num ≤ 256) && decide (c.root.length = 32))) := Lib.hid rfl
  clear h1
  generalize ckB c = RB at *
  generalize c.num = ix at *
  generalize c.root = R at *
  go_enter Try.func54, Try.ntmps54
  by_cases k1 : 0 ≤ ix
  · by_cases k2 : ix ≤ 256
    · have HF : Hid (RB = decide (R.length = 32)) := Lib.hid (by rw [HRB.out]; simp [k1, k2])
      by_cases k3 : R.length = 32
      · have n3 : (((R.length : Nat) : Int) == 32) = true := by simp [k3]
        have HT : Hid (RB = true) := Lib.hid (by rw [HF.out]; simp [k3])
        clear k3
        go_wp2
        go_ret
        exact ⟨by rw [HT.out]; rfl, HB0.out⟩
      · have n3 : (((R.length : Nat) : Int) == 32) = false := by simp; omega
        have HT : Hid (RB = false) := Lib.hid (by rw [HF.out]; simp [k3])
        clear k3
        go_wp2
        go_ret
        exact ⟨by rw [HT.out]; rfl, HB0.out⟩
    · have HT : Hid (RB = false) := Lib.hid (by rw [HRB.out]; simp [k2])
      go_wp2
      go_ret
      exact ⟨by rw [HT.out]; rfl, HB0.out⟩
  · have HT : Hid (RB = false) := Lib.hid (by rw [HRB.out]; simp [k1])
    go_wp2
    go_ret
    exact ⟨by rw [HT.out]; rfl, HB0.out⟩
/-- A new block of bytes, a mark behind it. -/
theorem bys_newz (w : World) (t : TypeId) (l : List UInt8) (fz : Nat × Nat) (n : Nat) (hn : l.length = n) (hm : n ≤ 1000000) : Bys (w.alloc (.cells (bys l).toArray t fz)) (.slice (some ⟨w.heap.size, 0, none⟩) n n) l := by
  subst hn
  refine ⟨by rw [bys_length]; omega, .inr ⟨_, 0, l.length, rfl, Nat.le_refl _, by unfold maxLen; omega, by simp, fun j u hj => ?_⟩⟩
  have hb : (w.alloc (.cells (bys l).toArray t fz)).heap[w.heap.size]? = some (.cells (bys l).toArray t fz) := blk_new w _
  rw [Nat.zero_add]
  generalize w.alloc (.cells (bys l).toArray t fz) = W at *
  generalize w.heap.size = g at *
  simp [World.cell?, hb, hj]
theorem RetB.small {w : World} {l : List UInt8} {e : Ending} {w' : World} (h : RetB w l e w') : ∃ v', e = .returned v' ∧ Bys w' v' l ∧ Below w.heap.size w w' := by
  obtain ⟨v', e, h1, h2⟩ := h
  exact ⟨v', e, h1.bys, h2⟩

set_option maxRecDepth 100000 in
set_option maxHeartbeats 1000000 in
theorem pckbody_any (v : Value) (c : CkD) (hl : c.root.length ≤ 100000000) (w : World) (hv : CkV w v c) :
    Calls Try.prog 56 #[v] w fun e w' => ∃ v', e = .returned v' ∧ Bys w' v' (bodyS tagCk c) ∧ Below w.heap.size w w' := by
  obtain ⟨p, rfl, h1⟩ := hv
  obtain ⟨P, cp, rfl⟩ := h1.form
  have HX := Lib.hid h1
  have HBS : Hid (bodyS tagCk c = if ckB c then tagCk ++ be4 c.num ++ c.root else []) := Lib.hid rfl
  have HCK : Hid (ckB c = true → 0 ≤ c.num ∧ c.num ≤ 256) := Lib.hid (by intro h; simp [ckB] at h; exact ⟨h.1.1, h.1.2⟩)
  generalize bodyS tagCk c = BS at *
  clear h1
  go_enter Try.func56, Try.ntmps56
  have hk0 := Blk.new w 36 [.int .i64 c.num, .slice P c.root.length cp]
  have hb0 : Below w.heap.size w (w.alloc (.cells #[.int .i64 c.num, .slice P c.root.length cp] 36)) := (Below.refl w.heap.size w).alloc (Nat.le_refl _) _
  have HW := Lib.hid (And.intro hk0 hb0)
  clear hk0 hb0
  go_wp2_with fail
  refine (pckright_any _ c (by omega) _ ⟨_, rfl, HX.out.below HW.out.2⟩).mono ?_
  rintro e w1 ⟨rfl, h1⟩
  have HW1 := Lib.hid (And.intro (HW.out.1.below h1) (HW.out.2.trans (h1.mono (by simp))))
  clear h1
  by_cases hck : ckB c = true
  · rw [hck] at HBS
    obtain ⟨n0, n1⟩ := HCK.out hck
    rw [hck]
    have HBS2 : Hid (BS = (tagCk ++ be4 c.num) ++ c.root) := Lib.hid (by rw [HBS.out, if_pos rfl])
    clear HBS hck
    go_wp2_with fail
    refine (wnew_any w1).mono ?_
    rintro e w2 ⟨rfl, h2, h3⟩
    have H2 := Lib.hid (And.intro h2 h3)
    have hlt2 : w1.heap.size < w2.heap.size := by obtain ⟨v, h, _⟩ := h2; exact h.lt
    clear h2 h3
    have hal := (Below.refl w1.heap.size w2).alloc (Nat.le_of_lt hlt2) (.cells (bys tagCk).toArray 5 (16, 16 + 1))
    have hal2 := (Below.refl w2.heap.size w2).alloc (Nat.le_refl _) (.cells (bys tagCk).toArray 5 (16, 16 + 1))
    have HT2 := Lib.hid (And.intro (bys_newz w2 5 tagCk (16, 16 + 1) 16 rfl (by decide)) (And.intro (H2.out.1.below hal2) (H2.out.2.trans hal)))
    clear hal hal2
    have kc := fun (w : World) (C : Array Value) (n c : Nat) => Lib.run_convert_bytes_const (P := Try.prog) w 30 5 C n c Try.underlying30 Try.underlying5
    go_wp2_with fail
    refine (wraw_any w1.heap.size w1.heap.size [] tagCk _ (by decide) (by decide) _ (by simp; omega) HT2.out.2.1 HT2.out.1).mono ?_
    rintro e w3 ⟨rfl, h4, h5⟩
    have H3 := Lib.hid (And.intro (show WrX w3 w1.heap.size w1.heap.size tagCk from h4) (HT2.out.2.2.trans h5))
    have hsz3 := H3.out.2.size
    have q0 := (HW1.out.1.below (H3.out.2)).cell 0 _ rfl
    have ew : IntKind.u32.wrap c.num = c.num := by
      rw [show IntKind.u32.wrap c.num = c.num % 4294967296 by simp [IntKind.wrap, IntKind.bits, IntKind.signed]]; omega
    clear h4 h5
    go_wp2_with fail
    refine (wnum_any w1.heap.size w1.heap.size tagCk c.num n0 (by omega) (by decide) _ hsz3 H3.out.1).mono ?_
    rintro e w4 ⟨rfl, h4, h5⟩
    have H4 := Lib.hid (And.intro h4 (H3.out.2.trans h5))
    have hsz4 := H4.out.2.size
    have q1 := (HW1.out.1.below (H4.out.2)).cell 1 _ rfl
    clear h4 h5 q0 ew
    go_wp2_with fail
    refine (wraw_any w1.heap.size w1.heap.size (tagCk ++ be4 c.num) c.root _ (by rw [List.length_append, be4_length]; decide) (by omega) _ hsz4 H4.out.1 (HX.out.below (HW1.out.2.trans (H4.out.2.mono HW1.out.2.size)))).mono ?_
    rintro e w5 ⟨rfl, h4, h5⟩
    have H5 := Lib.hid (And.intro h4 (H4.out.2.trans h5))
    have hfl : ((tagCk ++ be4 c.num) ++ c.root).length ≤ 1000000000 := by rw [List.length_append, List.length_append, be4_length]; have : tagCk.length = 16 := rfl; omega
    clear h4 h5 q1
    generalize (tagCk ++ be4 c.num) ++ c.root = FULL at *
    go_wp2_with fail
    refine (wdone_any w1.heap.size w1.heap.size FULL hfl w5 H5.out.1).mono ?_
    rintro e w6 ⟨v6, rfl, h6, h7⟩
    have H6 := Lib.hid (And.intro h6.bys (H5.out.2.trans (h7.mono H5.out.2.size)))
    obtain ⟨A6, c6, rfl⟩ := h6.form
    clear h6 h7
    go_wp2
    go_ret
    exact ⟨_, rfl, by rw [HBS2.out]; exact H6.out.1, HW1.out.2.trans (H6.out.2.mono HW1.out.2.size)⟩
  · have hck' : ckB c = false := by simpa using hck
    rw [hck'] at HBS
    rw [hck']
    have HF : Hid (BS = []) := Lib.hid HBS.out
    clear HBS hck hck'
    go_wp2
    go_ret
    exact ⟨_, rfl, by rw [HF.out]; exact Sho.nil _ _, HW1.out.2⟩

set_option maxRecDepth 100000 in
set_option maxHeartbeats 1000000 in
theorem pckcosign_any (v : Value) (c : CkD) (hl : c.root.length ≤ 100000000) (w : World) (hv : CkV w v c) :
    Calls Try.prog 62 #[v] w fun e w' => ∃ v', e = .returned v' ∧ Bys w' v' (bodyS tagCo c) ∧ Below w.heap.size w w' := by
  obtain ⟨p, rfl, h1⟩ := hv
  obtain ⟨P, cp, rfl⟩ := h1.form
  have HX := Lib.hid h1
  have HBS : Hid (bodyS tagCo c = if ckB c then tagCo ++ be4 c.num ++ c.root else []) := Lib.hid rfl
  have HCK : Hid (ckB c = true → 0 ≤ c.num ∧ c.num ≤ 256) := Lib.hid (by intro h; simp [ckB] at h; exact ⟨h.1.1, h.1.2⟩)
  generalize bodyS tagCo c = BS at *
  clear h1
  go_enter Try.func62, Try.ntmps62
  have hk0 := Blk.new w 36 [.int .i64 c.num, .slice P c.root.length cp]
  have hb0 : Below w.heap.size w (w.alloc (.cells #[.int .i64 c.num, .slice P c.root.length cp] 36)) := (Below.refl w.heap.size w).alloc (Nat.le_refl _) _
  have HW := Lib.hid (And.intro hk0 hb0)
  clear hk0 hb0
  go_wp2_with fail
  refine (pckright_any _ c (by omega) _ ⟨_, rfl, HX.out.below HW.out.2⟩).mono ?_
  rintro e w1 ⟨rfl, h1⟩
  have HW1 := Lib.hid (And.intro (HW.out.1.below h1) (HW.out.2.trans (h1.mono (by simp))))
  clear h1
  by_cases hck : ckB c = true
  · rw [hck] at HBS
    obtain ⟨n0, n1⟩ := HCK.out hck
    rw [hck]
    have HBS2 : Hid (BS = (tagCo ++ be4 c.num) ++ c.root) := Lib.hid (by rw [HBS.out, if_pos rfl])
    clear HBS hck
    go_wp2_with fail
    refine (wnew_any w1).mono ?_
    rintro e w2 ⟨rfl, h2, h3⟩
    have H2 := Lib.hid (And.intro h2 h3)
    have hlt2 : w1.heap.size < w2.heap.size := by obtain ⟨v, h, _⟩ := h2; exact h.lt
    clear h2 h3
    have hal := (Below.refl w1.heap.size w2).alloc (Nat.le_of_lt hlt2) (.cells (bys tagCo).toArray 5 (17, 17 + 1))
    have hal2 := (Below.refl w2.heap.size w2).alloc (Nat.le_refl _) (.cells (bys tagCo).toArray 5 (17, 17 + 1))
    have HT2 := Lib.hid (And.intro (bys_newz w2 5 tagCo (17, 17 + 1) 17 rfl (by decide)) (And.intro (H2.out.1.below hal2) (H2.out.2.trans hal)))
    clear hal hal2
    have kc := fun (w : World) (C : Array Value) (n c : Nat) => Lib.run_convert_bytes_const (P := Try.prog) w 30 5 C n c Try.underlying30 Try.underlying5
    go_wp2_with fail
    refine (wraw_any w1.heap.size w1.heap.size [] tagCo _ (by decide) (by decide) _ (by simp; omega) HT2.out.2.1 HT2.out.1).mono ?_
    rintro e w3 ⟨rfl, h4, h5⟩
    have H3 := Lib.hid (And.intro (show WrX w3 w1.heap.size w1.heap.size tagCo from h4) (HT2.out.2.2.trans h5))
    have hsz3 := H3.out.2.size
    have q0 := (HW1.out.1.below (H3.out.2)).cell 0 _ rfl
    have ew : IntKind.u32.wrap c.num = c.num := by
      rw [show IntKind.u32.wrap c.num = c.num % 4294967296 by simp [IntKind.wrap, IntKind.bits, IntKind.signed]]; omega
    clear h4 h5
    go_wp2_with fail
    refine (wnum_any w1.heap.size w1.heap.size tagCo c.num n0 (by omega) (by decide) _ hsz3 H3.out.1).mono ?_
    rintro e w4 ⟨rfl, h4, h5⟩
    have H4 := Lib.hid (And.intro h4 (H3.out.2.trans h5))
    have hsz4 := H4.out.2.size
    have q1 := (HW1.out.1.below (H4.out.2)).cell 1 _ rfl
    clear h4 h5 q0 ew
    go_wp2_with fail
    refine (wraw_any w1.heap.size w1.heap.size (tagCo ++ be4 c.num) c.root _ (by rw [List.length_append, be4_length]; decide) (by omega) _ hsz4 H4.out.1 (HX.out.below (HW1.out.2.trans (H4.out.2.mono HW1.out.2.size)))).mono ?_
    rintro e w5 ⟨rfl, h4, h5⟩
    have H5 := Lib.hid (And.intro h4 (H4.out.2.trans h5))
    have hfl : ((tagCo ++ be4 c.num) ++ c.root).length ≤ 1000000000 := by rw [List.length_append, List.length_append, be4_length]; have : tagCo.length = 17 := rfl; omega
    clear h4 h5 q1
    generalize (tagCo ++ be4 c.num) ++ c.root = FULL at *
    go_wp2_with fail
    refine (wdone_any w1.heap.size w1.heap.size FULL hfl w5 H5.out.1).mono ?_
    rintro e w6 ⟨v6, rfl, h6, h7⟩
    have H6 := Lib.hid (And.intro h6.bys (H5.out.2.trans (h7.mono H5.out.2.size)))
    obtain ⟨A6, c6, rfl⟩ := h6.form
    clear h6 h7
    go_wp2
    go_ret
    exact ⟨_, rfl, by rw [HBS2.out]; exact H6.out.1, HW1.out.2.trans (H6.out.2.mono HW1.out.2.size)⟩
  · have hck' : ckB c = false := by simpa using hck
    rw [hck'] at HBS
    rw [hck']
    have HF : Hid (BS = []) := Lib.hid HBS.out
    clear HBS hck hck'
    go_wp2
    go_ret
    exact ⟨_, rfl, by rw [HF.out]; exact Sho.nil _ _, HW1.out.2⟩
end Go.Proofs.Ytlkgeifmppadmaa
namespace Go.Proofs.Ytlkgeifmppadmaa
open Go.RowKit
set_option linter.unusedVariables false
set_option linter.unusedSimpArgs false

/-- Blocks that were made between two worlds. -/
def Fresh (w w' : World) (g : Nat) : Prop := w.heap.size ≤ g ∧ g < w'.heap.size
theorem Fresh.wide {w w0 w' w1 : World} {g : Nat} (h : Fresh w w' g) (h1 : w0.heap.size ≤ w.heap.size) (h2 : w'.heap.size ≤ w1.heap.size) : Fresh w0 w1 g := ⟨Nat.le_trans h1 h.1, Nat.lt_of_lt_of_le h.2 h2⟩
/-- A signature as a value, its texts in blocks of S. -/
def SigF (S : Nat → Prop) (w : World) (v : Value) (s : SigD) : Prop := ∃ p q, v = .agg #[.int .i64 s.index, p, q] ∧ RwsF S w p s.parts ∧ RwsF S w q s.path
theorem SigF.sigv {S : Nat → Prop} {w : World} {v : Value} {s : SigD} (h : SigF S w v s) : SigV w v s := by
  obtain ⟨p, q, e, h1, h2⟩ := h
  exact ⟨p, q, e, h1.rws, h2.rws⟩
theorem SigF.chg {S T : Nat → Prop} {w w1 : World} {v : Value} {s : SigD} (h : SigF S w v s) (hc : Chg w w1 T) (hS : ∀ g, S g → ¬ T g) : SigF S w1 v s := by
  obtain ⟨p, q, e, h1, h2⟩ := h
  exact ⟨p, q, e, h1.chg hc hS, h2.chg hc hS⟩
theorem SigF.mono {S T : Nat → Prop} {w : World} {v : Value} {s : SigD} (h : SigF S w v s) (hS : ∀ g, S g → T g) : SigF T w v s := by
  obtain ⟨p, q, e, h1, h2⟩ := h
  exact ⟨p, q, e, h1.mono hS, h2.mono hS⟩
theorem RwsF.below {S : Nat → Prop} {w w1 : World} {v : Value} {ls : List (List UInt8)} (h : RwsF S w v ls) (hb : Below w.heap.size w w1) : RwsF S w1 v ls :=
  h.chg (Chg.of_below (S := fun _ => False) hb) (fun _ _ h => h)
theorem SigF.below {S : Nat → Prop} {w w1 : World} {v : Value} {s : SigD} (h : SigF S w v s) (hb : Below w.heap.size w w1) : SigF S w1 v s :=
  h.chg (Chg.of_below (S := fun _ => False) hb) (fun _ _ h => h)
/-- A call that gives a signature of its own. -/
def RetSig (w : World) (s : SigD) (e : Ending) (w' : World) : Prop := ∃ v, e = .returned v ∧ SigF (Fresh w w') w' v s ∧ Below w.heap.size w w'
theorem two_of {w : World} (A B : List Value) (t1 t2 : TypeId) : Blk ((w.alloc (.cells A.toArray t1)).alloc (.cells B.toArray t2)) w.heap.size t1 A ∧ Blk ((w.alloc (.cells A.toArray t1)).alloc (.cells B.toArray t2)) (w.heap.size + 1) t2 B ∧ Below w.heap.size w ((w.alloc (.cells A.toArray t1)).alloc (.cells B.toArray t2)) := by
  obtain ⟨h1, h2, h3⟩ := blk2 w A B t1 t2 _ rfl
  exact ⟨h2, h3, h1⟩

set_option maxRecDepth 100000 in
set_option maxHeartbeats 2000000 in
theorem sigcopy_any (v : Value) (s : SigD) (hs : SmallSig s) (w : World) (hv : SigV w v s) :
    Calls Try.prog 57 #[v] w (RetSig w s) := by
  obtain ⟨p, q, rfl, h1, h2⟩ := hv
  obtain ⟨P, cp, rfl⟩ := h1.form
  obtain ⟨Q, cq, rfl⟩ := h2.form
  obtain ⟨hs1, hs2, hs3, hs4⟩ := hs
  have HC1 := Lib.hid (fun wz hz => clones_any (.slice P s.parts.length cp) s.parts hs1 hs3 wz hz)
  have HC2 := Lib.hid (fun wz hz => clones_any (.slice Q s.path.length cq) s.path hs2 hs4 wz hz)
  have HX := Lib.hid (And.intro h1 h2)
  clear h1 h2 hs3 hs4
  obtain ⟨ix, Ps, Qs⟩ := s
  obtain ⟨k0, k1, kb⟩ := two_of (w := w) [.int .i64 ix, .slice P Ps.length cp, .slice Q Qs.length cq] [.int .i64 0, .slice none 0 0, .slice none 0 0] 38 38
  have HW := Lib.hid (And.intro k0 (And.intro k1 kb))
  clear k0 k1 kb
  go_enter Try.func57, Try.ntmps57
  go_wp2
  refine code_at (fun w1 => Blk w1 w.heap.size 38 [.int .i64 ix, .slice P Ps.length cp, .slice Q Qs.length cq] ∧ Blk w1 (w.heap.size + 1) 38 [.int .i64 0, .slice none 0 0, .slice none 0 0] ∧ Below w.heap.size w w1) HW.out ?_
  rintro w1 ⟨k0, k1, kb⟩
  have H1 := Lib.hid (And.intro k0 (And.intro k1 kb))
  have c0 := k0.cell 0 _ rfl
  have c1 := k0.cell 1 _ rfl
  have c2 := k0.cell 2 _ rfl
  have hsz1 := k1.lt
  clear k0 k1 kb HW
  refine wp_region_held_drew (S := fun w' => w'.cell? ⟨w.heap.size, 0, none⟩ = some (.int .i64 ix) ∧ w'.cell? ⟨w.heap.size, 1, none⟩ = some (.slice P Ps.length cp) ∧ w'.cell? ⟨w.heap.size, 2, none⟩ = some (.slice Q Qs.length cq)) (by kernel_rfl) ?_ (fun hHeld => ?_)
  · exact ⟨c0, c1, c2⟩
  refine take_yes 0 3 rfl rfl (by kernel_rfl) (by kernel_rfl) (by kernel_rfl) (fun _ _ _ h => h) (by assumption) (by rfl) (v := ?_) ?_ ?_
  rotate_left 1
  · (intro w hSw; (try dsimp only at hSw); go_simp; try with_reducible rfl)
  simp only [List.setIfInBounds_toArray, List.set_cons_zero, List.set_cons_succ]
  refine take_yes 1 4 rfl rfl (by kernel_rfl) (by kernel_rfl) (by kernel_rfl) (fun _ _ _ h => h) (by assumption) (by rfl) (v := ?_) ?_ ?_
  rotate_left 1
  · (intro w hSw; (try dsimp only at hSw); go_simp; try with_reducible rfl)
  simp only [List.setIfInBounds_toArray, List.set_cons_zero, List.set_cons_succ]
  refine take_yes 2 5 rfl rfl (by kernel_rfl) (by kernel_rfl) (by kernel_rfl) (fun _ _ _ h => h) (by assumption) (by rfl) (v := ?_) ?_ ?_
  rotate_left 1
  · (intro w hSw; (try dsimp only at hSw); go_simp; try with_reducible rfl)
  simp only [List.setIfInBounds_toArray, List.set_cons_zero, List.set_cons_succ]
  refine take_yes 3 6 rfl rfl (by kernel_rfl) (by kernel_rfl) (by kernel_rfl) (fun _ _ _ h => h) (by assumption) (by rfl) (v := ?_) ?_ ?_
  rotate_left 1
  · (intro w hSw; (try dsimp only at hSw); go_simp; try with_reducible rfl)
  simp only [List.setIfInBounds_toArray, List.set_cons_zero, List.set_cons_succ]
  refine take_yes 5 8 rfl rfl (by kernel_rfl) (by kernel_rfl) (by kernel_rfl) (fun _ _ _ h => h) (by assumption) (by rfl) (v := ?_) ?_ ?_
  rotate_left 1
  · (intro w hSw; (try dsimp only at hSw); go_simp; try with_reducible rfl)
  simp only [List.setIfInBounds_toArray, List.set_cons_zero, List.set_cons_succ]
  refine take_yes 6 9 rfl rfl (by kernel_rfl) (by kernel_rfl) (by kernel_rfl) (fun _ _ _ h => h) (by assumption) (by rfl) (v := ?_) ?_ ?_
  rotate_left 1
  · (intro w hSw; (try dsimp only at hSw); go_simp; try with_reducible rfl)
  simp only [List.setIfInBounds_toArray, List.set_cons_zero, List.set_cons_succ]
  -- 4:  dst := some 7, op := Op.call  callee := Callee.value (Operand.func 79), args := #[Operand.tmp 6], argTypes := #[31] , type := 
  refine wpAnyH_ready (rs := [4]) (by kernel_rfl) (by simp) ?_
  refine AllReadyH.cons rfl (fun K hK => ?_) AllReadyH.nil
  go_simp
  go_at_call 79
  refine (HC1.out w1.drew (HX.out.1.below H1.out.2.2.drew)).mono ?_
  rintro e w2 ⟨v2, rfl, h2, h3⟩
  obtain ⟨A2, n2, rfl⟩ := h2.rws.form
  have hb2 : Below w1.heap.size w1 w2 := ⟨h3.os, h3.tape, h3.output, h3.size, h3.block⟩
  have k0 := H1.out.1.below hb2
  have e0 := k0.cell 0 _ rfl
  have e1 := k0.cell 1 _ rfl
  have e2 := k0.cell 2 _ rfl
  have H2 := Lib.hid (And.intro (show RwsF (fun g => w1.heap.size ≤ g ∧ g < w2.heap.size) w2 _ Ps from h2.foot) (And.intro hb2 (And.intro k0 (H1.out.2.1.below hb2))))
  clear h2 h3 hb2 k0
  go_wp2_with fail
  refine hK.out _ _ ⟨e0, e1, e2⟩ (fun hHeld4 => ?_)
  clear hK K
  try simp only [Act.put, List.setIfInBounds_toArray, List.set_cons_zero, List.set_cons_succ]
  -- 7:  dst := some 10, op := Op.call  callee := Callee.value (Operand.func 79), args := #[Operand.tmp 9], argTypes := #[31] , type :=
  refine wpAnyH_ready (rs := [7]) (by kernel_rfl) (by simp) ?_
  refine AllReadyH.cons rfl (fun K hK => ?_) AllReadyH.nil
  go_simp
  go_at_call 79
  refine (HC2.out w2 (HX.out.2.below (H1.out.2.2.trans (H2.out.2.1.mono H1.out.2.2.size)))).mono ?_
  rintro e w3 ⟨v3, rfl, h4, h5⟩
  obtain ⟨A3, n3, rfl⟩ := h4.rws.form
  have k0 := H2.out.2.2.1.below h5
  have k1 := H2.out.2.2.2.below h5
  have i0 := k0.cell 0 _ rfl
  have i1 := k0.cell 1 _ rfl
  have i2 := k0.cell 2 _ rfl
  have j0 := k1.cell 0 _ rfl
  have j1 := k1.cell 1 _ rfl
  have j2 := k1.cell 2 _ rfl
  have g0 := k1.free 0
  have g1 := k1.free 1
  have g2 := k1.free 2
  have H3 := Lib.hid (And.intro h4.foot (And.intro (H2.out.1.below h5) (And.intro k1 (And.intro (H1.out.2.2.trans ((H2.out.2.1.trans (h5.mono H2.out.2.1.size)).mono H1.out.2.2.size)) (And.intro H2.out.2.1.size h5.size)))))
  clear h4 h5 k0 k1 e0 e1 e2
  go_wp2_with fail
  refine hK.out _ _ ⟨i0, i1, i2⟩ (fun hHeld7 => ?_)
  clear hK K
  try simp only [Act.put, List.setIfInBounds_toArray, List.set_cons_zero, List.set_cons_succ]
  refine take_yes 8 11 rfl rfl (by kernel_rfl) (by kernel_rfl) (by kernel_rfl) (fun _ _ _ h => h) (by assumption) (by rfl) (v := ?_) ?_ ?_
  rotate_left 1
  · (intro w hSw; (try dsimp only at hSw); go_simp; try with_reducible rfl)
  simp only [List.setIfInBounds_toArray, List.set_cons_zero, List.set_cons_succ]
  -- 9:  dst := none, op := Op.store 38 (Operand.tmp 2) (Operand.tmp 11), type := 0
  refine wpAnyH_ready (rs := [9]) (by kernel_rfl) (by simp) ?_
  refine AllReadyH.cons rfl (fun K hK => ?_) AllReadyH.nil
  go_simp
  have hq : True := trivial
  refine hK.out _ _ ⟨by go_keep, by go_keep, by go_keep⟩ (fun hHeld9 => ?_)
  clear hK K
  try simp only [Act.put, List.setIfInBounds_toArray, List.set_cons_zero, List.set_cons_succ]
  refine wpAnyH_done (by kernel_rfl) ?_ _
  have hch : Chg w3 (((w3.setCell ⟨w.heap.size + 1, 0, none⟩ (.int .i64 ix)).setCell ⟨w.heap.size + 1, 1, none⟩ (.slice A2 Ps.length n2)).setCell ⟨w.heap.size + 1, 2, none⟩ (.slice A3 Qs.length n3)) (fun k => k = w.heap.size + 1) := chg_cell (chg_cell (chg_cell (Chg.refl w3 _) 0 _) 1 _) 2 _
  have hfin : Blk (((w3.setCell ⟨w.heap.size + 1, 0, none⟩ (.int .i64 ix)).setCell ⟨w.heap.size + 1, 1, none⟩ (.slice A2 Ps.length n2)).setCell ⟨w.heap.size + 1, 2, none⟩ (.slice A3 Qs.length n3)) (w.heap.size + 1) 38 [.int .i64 ix, .slice A2 Ps.length n2, .slice A3 Qs.length n3] := ((H3.out.2.2.1.set 0 _ (by simp)).set 1 _ (by simp)).set 2 _ (by simp)
  generalize ((w3.setCell ⟨w.heap.size + 1, 0, none⟩ (.int .i64 ix)).setCell ⟨w.heap.size + 1, 1, none⟩ (.slice A2 Ps.length n2)).setCell ⟨w.heap.size + 1, 2, none⟩ (.slice A3 Qs.length n3) = w4 at *
  have HF := Lib.hid (And.intro hch hfin)
  clear hch hfin j0 j1 j2 g0 g1 g2 i0 i1 i2 c0 c1 c2
  go_wp2
  obtain ⟨h4, h5, h6, h7, h8, h9⟩ := H3.out
  refine bodyPost_ret (v := .agg [.int .i64 ix, .slice A2 Ps.length n2, .slice A3 Qs.length n3].toArray) ?_ ?_ ⟨_, rfl, ⟨_, _, rfl, ?_, ?_⟩, ?_⟩
  · exact results_cell_row Try.results57 _ _ (w.heap.size + 1) 38 _ (0, 0) _ rfl HF.out.2 under_sig rfl size_sig
  · rfl
  · exact (h5.chg HF.out.1 (fun g hg e => by omega)).mono (fun g hg => ⟨by omega, by have := HF.out.1.size; omega⟩)
  · exact (h4.chg HF.out.1 (fun g hg e => by omega)).mono (fun g hg => ⟨by omega, by have := HF.out.1.size; omega⟩)
  · exact h7.trans (HF.out.1.below h7.size (fun k hk => by omega))
/-- Bytes, in blocks of S. -/
def BysF (S : Nat → Prop) (w : World) (v : Value) (l : List UInt8) : Prop := Bys w v l ∧ (0 < l.length → ∀ g, v.ownBlock = some g → S g)
theorem BysF.chg {S T : Nat → Prop} {w w1 : World} {v : Value} {l : List UInt8} (h : BysF S w v l) (hc : Chg w w1 T) (hS : ∀ g, S g → ¬ T g) : BysF S w1 v l := ⟨Sho.chgF h.1 h.2 hc hS, h.2⟩
theorem BysF.mono {S T : Nat → Prop} {w : World} {v : Value} {l : List UInt8} (h : BysF S w v l) (hS : ∀ g, S g → T g) : BysF T w v l := ⟨h.1, fun h0 g hg => hS g (h.2 h0 g hg)⟩
theorem BysF.below {S : Nat → Prop} {w w1 : World} {v : Value} {l : List UInt8} (h : BysF S w v l) (hb : Below w.heap.size w w1) : BysF S w1 v l := ⟨h.1.below hb, h.2⟩
theorem OwnB.foot {w : World} {base : Nat} {v : Value} {l : List UInt8} (h : OwnB w base v l) : BysF (fun g => base ≤ g ∧ g < w.heap.size) w v l := ⟨h.bys, fun _ g hg => World.ownsRow.lt h g hg⟩
/-- A signed checkpoint as a value, its texts in blocks of S. -/
def SgF (S : Nat → Prop) (w : World) (v : Value) (s : SgD) : Prop := ∃ r p q, v = .agg #[.int .i64 s.ck.num, r, .int .i64 s.sig.index, p, q] ∧ BysF S w r s.ck.root ∧ RwsF S w p s.sig.parts ∧ RwsF S w q s.sig.path
theorem SgF.sgv {S : Nat → Prop} {w : World} {v : Value} {s : SgD} (h : SgF S w v s) : SgV w v s := by
  obtain ⟨r, p, q, e, h0, h1, h2⟩ := h
  exact ⟨r, p, q, e, h0.1, h1.rws, h2.rws⟩
theorem SgF.chg {S T : Nat → Prop} {w w1 : World} {v : Value} {s : SgD} (h : SgF S w v s) (hc : Chg w w1 T) (hS : ∀ g, S g → ¬ T g) : SgF S w1 v s := by
  obtain ⟨r, p, q, e, h0, h1, h2⟩ := h
  exact ⟨r, p, q, e, h0.chg hc hS, h1.chg hc hS, h2.chg hc hS⟩
theorem SgF.mono {S T : Nat → Prop} {w : World} {v : Value} {s : SgD} (h : SgF S w v s) (hS : ∀ g, S g → T g) : SgF T w v s := by
  obtain ⟨r, p, q, e, h0, h1, h2⟩ := h
  exact ⟨r, p, q, e, h0.mono hS, h1.mono hS, h2.mono hS⟩
theorem SgF.below {S : Nat → Prop} {w w1 : World} {v : Value} {s : SgD} (h : SgF S w v s) (hb : Below w.heap.size w w1) : SgF S w1 v s := h.chg (Chg.of_below (S := fun _ => False) hb) (fun _ _ h => h)
theorem under_signed : Try.prog.underlying 40 = some (.struct (Try.prog.fieldsOf 40)) := by kernel_rfl
theorem size_signed : (Try.prog.info? 40).map (·.size) = some 5 := by kernel_rfl
def RetSg (w : World) (s : SgD) (e : Ending) (w' : World) : Prop := ∃ v, e = .returned v ∧ SgF (Fresh w w') w' v s ∧ Below w.heap.size w w'
set_option maxRecDepth 100000 in
set_option maxHeartbeats 4000000 in
theorem ckcopy_any (v : Value) (s : SgD) (hr : s.ck.root.length ≤ 100000000) (hs : SmallSig s.sig) (w : World) (hv : SgV w v s) :
    Calls Try.prog 34 #[v] w (RetSg w s) := by
  obtain ⟨r, p, q, rfl, h0, h1, h2⟩ := hv
  obtain ⟨R, cr, rfl⟩ := h0.form
  obtain ⟨P, cp, rfl⟩ := h1.form
  obtain ⟨Q, cq, rfl⟩ := h2.form
  have HC1 := Lib.hid (fun wz hz => clone_any (.slice R s.ck.root.length cr) s.ck.root (by omega) wz hz)
  have HC2 := Lib.hid (fun wz v hz => sigcopy_any v s.sig hs wz hz)
  have HX := Lib.hid (And.intro h0 (And.intro h1 h2))
  clear h0 h1 h2 hs hr
  obtain ⟨⟨num, root⟩, ⟨ix, Ps, Qs⟩⟩ := s
  obtain ⟨k0, k1, kb⟩ := two_of (w := w) [.int .i64 num, .slice R root.length cr, .int .i64 ix, .slice P Ps.length cp, .slice Q Qs.length cq] [.int .i64 0, .slice none 0 0, .int .i64 0, .slice none 0 0, .slice none 0 0] 40 40
  have HW := Lib.hid (And.intro k0 (And.intro k1 kb))
  clear k0 k1 kb
  go_enter Try.func34, Try.ntmps34
  go_wp2
  refine code_at (fun w1 => Blk w1 w.heap.size 40 [.int .i64 num, .slice R root.length cr, .int .i64 ix, .slice P Ps.length cp, .slice Q Qs.length cq] ∧ Blk w1 (w.heap.size + 1) 40 [.int .i64 0, .slice none 0 0, .int .i64 0, .slice none 0 0, .slice none 0 0] ∧ Below w.heap.size w w1) HW.out ?_
  rintro w1 ⟨k0, k1, kb⟩
  have H1 := Lib.hid (And.intro k0 (And.intro k1 kb))
  have c0 := k0.cell 0 _ rfl
  have c1 := k0.cell 1 _ rfl
  have c2 := k0.cell 2 _ rfl
  have c3 := k0.cell 3 _ rfl
  have c4 := k0.cell 4 _ rfl
  have hsz1 := k1.lt
  clear k0 k1 kb HW
  refine wp_region_held_drew (S := fun w' => w'.cell? ⟨w.heap.size, 0, none⟩ = some (.int .i64 num) ∧ w'.cell? ⟨w.heap.size, 1, none⟩ = some (.slice R root.length cr) ∧ w'.cell? ⟨w.heap.size, 2, none⟩ = some (.int .i64 ix) ∧ w'.cell? ⟨w.heap.size, 3, none⟩ = some (.slice P Ps.length cp) ∧ w'.cell? ⟨w.heap.size, 4, none⟩ = some (.slice Q Qs.length cq)) (by kernel_rfl) ?_ (fun hHeld => ?_)
  · exact ⟨c0, c1, c2, c3, c4⟩
  refine take_yes 0 3 rfl rfl (by kernel_rfl) (by kernel_rfl) (by kernel_rfl) (fun _ _ _ h => h) (by assumption) (by rfl) (v := ?_) ?_ ?_
  rotate_left 1
  · (intro w hSw; (try dsimp only at hSw); go_simp; try with_reducible rfl)
  simp only [List.setIfInBounds_toArray, List.set_cons_zero, List.set_cons_succ]
  refine take_yes 1 4 rfl rfl (by kernel_rfl) (by kernel_rfl) (by kernel_rfl) (fun _ _ _ h => h) (by assumption) (by rfl) (v := ?_) ?_ ?_
  rotate_left 1
  · (intro w hSw; (try dsimp only at hSw); go_simp; try with_reducible rfl)
  simp only [List.setIfInBounds_toArray, List.set_cons_zero, List.set_cons_succ]
  refine take_yes 2 5 rfl rfl (by kernel_rfl) (by kernel_rfl) (by kernel_rfl) (fun _ _ _ h => h) (by assumption) (by rfl) (v := ?_) ?_ ?_
  rotate_left 1
  · (intro w hSw; (try dsimp only at hSw); go_simp; try with_reducible rfl)
  simp only [List.setIfInBounds_toArray, List.set_cons_zero, List.set_cons_succ]
  refine take_yes 3 6 rfl rfl (by kernel_rfl) (by kernel_rfl) (by kernel_rfl) (fun _ _ _ h => h) (by assumption) (by rfl) (v := ?_) ?_ ?_
  rotate_left 1
  · (intro w hSw; (try dsimp only at hSw); go_simp; try with_reducible rfl)
  simp only [List.setIfInBounds_toArray, List.set_cons_zero, List.set_cons_succ]
  refine take_yes 4 7 rfl rfl (by kernel_rfl) (by kernel_rfl) (by kernel_rfl) (fun _ _ _ h => h) (by assumption) (by rfl) (v := ?_) ?_ ?_
  rotate_left 1
  · (intro w hSw; (try dsimp only at hSw); go_simp; try with_reducible rfl)
  simp only [List.setIfInBounds_toArray, List.set_cons_zero, List.set_cons_succ]
  refine take_yes 5 8 rfl rfl (by kernel_rfl) (by kernel_rfl) (by kernel_rfl) (fun _ _ _ h => h) (by assumption) (by rfl) (v := ?_) ?_ ?_
  rotate_left 1
  · (intro w hSw; (try dsimp only at hSw); go_simp; try with_reducible rfl)
  simp only [List.setIfInBounds_toArray, List.set_cons_zero, List.set_cons_succ]
  refine take_yes 8 11 rfl rfl (by kernel_rfl) (by kernel_rfl) (by kernel_rfl) (fun _ _ _ h => h) (by assumption) (by rfl) (v := ?_) ?_ ?_
  rotate_left 1
  · (intro w hSw; (try dsimp only at hSw); go_simp; try with_reducible rfl)
  simp only [List.setIfInBounds_toArray, List.set_cons_zero, List.set_cons_succ]
  refine take_yes 9 12 rfl rfl (by kernel_rfl) (by kernel_rfl) (by kernel_rfl) (fun _ _ _ h => h) (by assumption) (by rfl) (v := ?_) ?_ ?_
  rotate_left 1
  · (intro w hSw; (try dsimp only at hSw); go_simp; try with_reducible rfl)
  simp only [List.setIfInBounds_toArray, List.set_cons_zero, List.set_cons_succ]
  -- 6:  dst := some 9, op := Op.call  callee := Callee.value (Operand.func 48), args := #[Operand.tmp 8], argTypes := #[30] , type := 
  refine wpAnyH_ready (rs := [6]) (by kernel_rfl) (by simp) ?_
  refine AllReadyH.cons rfl (fun K hK => ?_) AllReadyH.nil
  go_simp
  go_at_call 48
  refine (HC1.out w1.drew (HX.out.1.below H1.out.2.2.drew)).mono ?_
  rintro e w2 ⟨v2, rfl, h2, h3⟩
  obtain ⟨A2, n2, rfl⟩ := h2.form
  have hb2 : Below w1.heap.size w1 w2 := ⟨h3.os, h3.tape, h3.output, h3.size, h3.block⟩
  have k0 := H1.out.1.below hb2
  have e0 := k0.cell 0 _ rfl
  have e1 := k0.cell 1 _ rfl
  have e2 := k0.cell 2 _ rfl
  have e3 := k0.cell 3 _ rfl
  have e4 := k0.cell 4 _ rfl
  have H2 := Lib.hid (And.intro (show BysF (fun g => w1.heap.size ≤ g ∧ g < w2.heap.size) w2 _ root from h2.foot) (And.intro hb2 (And.intro k0 (H1.out.2.1.below hb2))))
  clear h2 h3 hb2 k0
  go_wp2_with fail
  refine hK.out _ _ ⟨e0, e1, e2, e3, e4⟩ (fun hHeld6 => ?_)
  clear hK K
  try simp only [Act.put, List.setIfInBounds_toArray, List.set_cons_zero, List.set_cons_succ]
  refine take_yes 7 10 rfl rfl (by kernel_rfl) (by kernel_rfl) (by kernel_rfl) (fun _ _ _ h => h) (by assumption) (by rfl) (v := ?_) ?_ ?_
  rotate_left 1
  · (intro w hSw; (try dsimp only at hSw); go_simp; try with_reducible rfl)
  simp only [List.setIfInBounds_toArray, List.set_cons_zero, List.set_cons_succ]
  -- 10:  dst := some 13, op := Op.call  callee := Callee.value (Operand.func 57), args := #[Operand.tmp 12], argTypes := #[38] , type :
  refine wpAnyH_ready (rs := [10]) (by kernel_rfl) (by simp) ?_
  refine AllReadyH.cons rfl (fun K hK => ?_) AllReadyH.nil
  go_simp
  go_at_call 57
  refine (HC2.out w2 _ ⟨_, _, rfl, HX.out.2.1.below (H1.out.2.2.trans (H2.out.2.1.mono H1.out.2.2.size)), HX.out.2.2.below (H1.out.2.2.trans (H2.out.2.1.mono H1.out.2.2.size))⟩).mono ?_
  rintro e w3 ⟨v3, rfl, ⟨p3, q3, rfl, h4, h6⟩, h5⟩
  obtain ⟨A3, n3, rfl⟩ := h4.rws.form
  obtain ⟨A4, n4, rfl⟩ := h6.rws.form
  have k0 := H2.out.2.2.1.below h5
  have k1 := H2.out.2.2.2.below h5
  have i0 := k0.cell 0 _ rfl
  have i1 := k0.cell 1 _ rfl
  have i2 := k0.cell 2 _ rfl
  have i3 := k0.cell 3 _ rfl
  have i4 := k0.cell 4 _ rfl
  have j0 := k1.cell 0 _ rfl
  have j1 := k1.cell 1 _ rfl
  have j2 := k1.cell 2 _ rfl
  have j3 := k1.cell 3 _ rfl
  have j4 := k1.cell 4 _ rfl
  have g0 := k1.free 0
  have g1 := k1.free 1
  have g2 := k1.free 2
  have g3 := k1.free 3
  have g4 := k1.free 4
  have H3 := Lib.hid (And.intro h4 (And.intro h6 (And.intro (H2.out.1.below h5) (And.intro k1 (And.intro (H1.out.2.2.trans ((H2.out.2.1.trans (h5.mono H2.out.2.1.size)).mono H1.out.2.2.size)) (And.intro H2.out.2.1.size h5.size))))))
  clear h4 h5 h6 k0 k1 e0 e1 e2 e3 e4
  go_wp2_with fail
  refine hK.out _ _ ⟨i0, i1, i2, i3, i4⟩ (fun hHeld10 => ?_)
  clear hK K
  try simp only [Act.put, List.setIfInBounds_toArray, List.set_cons_zero, List.set_cons_succ]
  refine take_yes 11 14 rfl rfl (by kernel_rfl) (by kernel_rfl) (by kernel_rfl) (fun _ _ _ h => h) (by assumption) (by rfl) (v := ?_) ?_ ?_
  rotate_left 1
  · (intro w hSw; (try dsimp only at hSw); go_simp; try with_reducible rfl)
  simp only [List.setIfInBounds_toArray, List.set_cons_zero, List.set_cons_succ]
  -- 12:  dst := none, op := Op.store 40 (Operand.tmp 2) (Operand.tmp 14), type := 0
  refine wpAnyH_ready (rs := [12]) (by kernel_rfl) (by simp) ?_
  refine AllReadyH.cons rfl (fun K hK => ?_) AllReadyH.nil
  go_simp
  have hq : True := trivial
  refine hK.out _ _ ⟨by go_keep, by go_keep, by go_keep, by go_keep, by go_keep⟩ (fun hHeld12 => ?_)
  clear hK K
  try simp only [Act.put, List.setIfInBounds_toArray, List.set_cons_zero, List.set_cons_succ]
  refine wpAnyH_done (by kernel_rfl) ?_ _
  have hch : Chg w3 (((((w3.setCell ⟨w.heap.size + 1, 0, none⟩ (.int .i64 num)).setCell ⟨w.heap.size + 1, 1, none⟩ (.slice A2 root.length n2)).setCell ⟨w.heap.size + 1, 2, none⟩ (.int .i64 ix)).setCell ⟨w.heap.size + 1, 3, none⟩ (.slice A3 Ps.length n3)).setCell ⟨w.heap.size + 1, 4, none⟩ (.slice A4 Qs.length n4)) (fun k => k = w.heap.size + 1) := chg_cell (chg_cell (chg_cell (chg_cell (chg_cell (Chg.refl w3 _) 0 _) 1 _) 2 _) 3 _) 4 _
  have hfin : Blk (((((w3.setCell ⟨w.heap.size + 1, 0, none⟩ (.int .i64 num)).setCell ⟨w.heap.size + 1, 1, none⟩ (.slice A2 root.length n2)).setCell ⟨w.heap.size + 1, 2, none⟩ (.int .i64 ix)).setCell ⟨w.heap.size + 1, 3, none⟩ (.slice A3 Ps.length n3)).setCell ⟨w.heap.size + 1, 4, none⟩ (.slice A4 Qs.length n4)) (w.heap.size + 1) 40 [.int .i64 num, .slice A2 root.length n2, .int .i64 ix, .slice A3 Ps.length n3, .slice A4 Qs.length n4] := ((((H3.out.2.2.2.1.set 0 _ (by simp)).set 1 _ (by simp)).set 2 _ (by simp)).set 3 _ (by simp)).set 4 _ (by simp)
  generalize ((((w3.setCell ⟨w.heap.size + 1, 0, none⟩ (.int .i64 num)).setCell ⟨w.heap.size + 1, 1, none⟩ (.slice A2 root.length n2)).setCell ⟨w.heap.size + 1, 2, none⟩ (.int .i64 ix)).setCell ⟨w.heap.size + 1, 3, none⟩ (.slice A3 Ps.length n3)).setCell ⟨w.heap.size + 1, 4, none⟩ (.slice A4 Qs.length n4) = w4 at *
  have HF := Lib.hid (And.intro hch hfin)
  clear hch hfin j0 j1 j2 j3 j4 g0 g1 g2 g3 g4 i0 i1 i2 i3 i4 c0 c1 c2 c3 c4
  go_wp2
  obtain ⟨h4, h6, h5, h5', h7, h8, h9⟩ := H3.out
  refine bodyPost_ret (v := .agg [.int .i64 num, .slice A2 root.length n2, .int .i64 ix, .slice A3 Ps.length n3, .slice A4 Qs.length n4].toArray) ?_ ?_ ⟨_, rfl, ⟨_, _, _, rfl, ?_, ?_, ?_⟩, ?_⟩
  · exact results_cell_row Try.results34 _ _ (w.heap.size + 1) 40 _ (0, 0) _ rfl HF.out.2 under_signed rfl size_signed
  · rfl
  · exact (h5.chg HF.out.1 (fun g hg e => by omega)).mono (fun g hg => ⟨by omega, by have := HF.out.1.size; omega⟩)
  · exact (h4.chg HF.out.1 (fun g hg e => by have := hg.1; omega)).mono (fun g hg => ⟨by have := hg.1; omega, by have := hg.2; have := HF.out.1.size; omega⟩)
  · exact (h6.chg HF.out.1 (fun g hg e => by have := hg.1; omega)).mono (fun g hg => ⟨by have := hg.1; omega, by have := hg.2; have := HF.out.1.size; omega⟩)
  · exact h7.trans (HF.out.1.below h7.size (fun k hk => by omega))
/-- A cosignature. -/
structure CgD where
  wit : Int
  sig : SigD
def CgV (w : World) (v : Value) (s : CgD) : Prop := ∃ p q, v = .agg #[.int .i64 s.wit, .int .i64 s.sig.index, p, q] ∧ Rws w p s.sig.parts ∧ Rws w q s.sig.path
def CgF (S : Nat → Prop) (w : World) (v : Value) (s : CgD) : Prop := ∃ p q, v = .agg #[.int .i64 s.wit, .int .i64 s.sig.index, p, q] ∧ RwsF S w p s.sig.parts ∧ RwsF S w q s.sig.path
theorem CgV.below {w w1 : World} {v : Value} {s : CgD} (h : CgV w v s) (hb : Below w.heap.size w w1) : CgV w1 v s := by
  obtain ⟨p, q, e, h1, h2⟩ := h
  exact ⟨p, q, e, h1.below hb, h2.below hb⟩
theorem CgF.cgv {S : Nat → Prop} {w : World} {v : Value} {s : CgD} (h : CgF S w v s) : CgV w v s := by
  obtain ⟨p, q, e, h1, h2⟩ := h
  exact ⟨p, q, e, h1.rws, h2.rws⟩
theorem CgF.chg {S T : Nat → Prop} {w w1 : World} {v : Value} {s : CgD} (h : CgF S w v s) (hc : Chg w w1 T) (hS : ∀ g, S g → ¬ T g) : CgF S w1 v s := by
  obtain ⟨p, q, e, h1, h2⟩ := h
  exact ⟨p, q, e, h1.chg hc hS, h2.chg hc hS⟩
theorem CgF.mono {S T : Nat → Prop} {w : World} {v : Value} {s : CgD} (h : CgF S w v s) (hS : ∀ g, S g → T g) : CgF T w v s := by
  obtain ⟨p, q, e, h1, h2⟩ := h
  exact ⟨p, q, e, h1.mono hS, h2.mono hS⟩
theorem CgF.below {S : Nat → Prop} {w w1 : World} {v : Value} {s : CgD} (h : CgF S w v s) (hb : Below w.heap.size w w1) : CgF S w1 v s := h.chg (Chg.of_below (S := fun _ => False) hb) (fun _ _ h => h)
theorem under_cosig : Try.prog.underlying 58 = some (.struct (Try.prog.fieldsOf 58)) := by kernel_rfl
theorem size_cosig : (Try.prog.info? 58).map (·.size) = some 4 := by kernel_rfl
def RetCg (w : World) (s : CgD) (e : Ending) (w' : World) : Prop := ∃ v, e = .returned v ∧ CgF (Fresh w w') w' v s ∧ Below w.heap.size w w'
set_option maxRecDepth 100000 in
set_option maxHeartbeats 4000000 in
theorem cgcopy_any (v : Value) (s : CgD) (hs : SmallSig s.sig) (w : World) (hv : CgV w v s) :
    Calls Try.prog 40 #[v] w (RetCg w s) := by
  obtain ⟨p, q, rfl, h1, h2⟩ := hv
  obtain ⟨P, cp, rfl⟩ := h1.form
  obtain ⟨Q, cq, rfl⟩ := h2.form
  have HC2 := Lib.hid (fun wz v hz => sigcopy_any v s.sig hs wz hz)
  have HX := Lib.hid (And.intro h1 h2)
  clear h1 h2 hs
  obtain ⟨wit, ⟨ix, Ps, Qs⟩⟩ := s
  obtain ⟨k0, k1, kb⟩ := two_of (w := w) [.int .i64 wit, .int .i64 ix, .slice P Ps.length cp, .slice Q Qs.length cq] [.int .i64 0, .int .i64 0, .slice none 0 0, .slice none 0 0] 58 58
  have HW := Lib.hid (And.intro k0 (And.intro k1 kb))
  clear k0 k1 kb
  go_enter Try.func40, Try.ntmps40
  go_wp2
  refine code_at (fun w1 => Blk w1 w.heap.size 58 [.int .i64 wit, .int .i64 ix, .slice P Ps.length cp, .slice Q Qs.length cq] ∧ Blk w1 (w.heap.size + 1) 58 [.int .i64 0, .int .i64 0, .slice none 0 0, .slice none 0 0] ∧ Below w.heap.size w w1) HW.out ?_
  rintro w1 ⟨k0, k1, kb⟩
  have H1 := Lib.hid (And.intro k0 (And.intro k1 kb))
  have c0 := k0.cell 0 _ rfl
  have c1 := k0.cell 1 _ rfl
  have c2 := k0.cell 2 _ rfl
  have c3 := k0.cell 3 _ rfl
  have hsz1 := k1.lt
  clear k0 k1 kb HW
  refine wp_region_held_drew (S := fun w' => w'.cell? ⟨w.heap.size, 0, none⟩ = some (.int .i64 wit) ∧ w'.cell? ⟨w.heap.size, 1, none⟩ = some (.int .i64 ix) ∧ w'.cell? ⟨w.heap.size, 2, none⟩ = some (.slice P Ps.length cp) ∧ w'.cell? ⟨w.heap.size, 3, none⟩ = some (.slice Q Qs.length cq)) (by kernel_rfl) ?_ (fun hHeld => ?_)
  · exact ⟨c0, c1, c2, c3⟩
  refine take_yes 0 3 rfl rfl (by kernel_rfl) (by kernel_rfl) (by kernel_rfl) (fun _ _ _ h => h) (by assumption) (by rfl) (v := ?_) ?_ ?_
  rotate_left 1
  · (intro w hSw; (try dsimp only at hSw); go_simp; try with_reducible rfl)
  simp only [List.setIfInBounds_toArray, List.set_cons_zero, List.set_cons_succ]
  refine take_yes 1 4 rfl rfl (by kernel_rfl) (by kernel_rfl) (by kernel_rfl) (fun _ _ _ h => h) (by assumption) (by rfl) (v := ?_) ?_ ?_
  rotate_left 1
  · (intro w hSw; (try dsimp only at hSw); go_simp; try with_reducible rfl)
  simp only [List.setIfInBounds_toArray, List.set_cons_zero, List.set_cons_succ]
  refine take_yes 2 5 rfl rfl (by kernel_rfl) (by kernel_rfl) (by kernel_rfl) (fun _ _ _ h => h) (by assumption) (by rfl) (v := ?_) ?_ ?_
  rotate_left 1
  · (intro w hSw; (try dsimp only at hSw); go_simp; try with_reducible rfl)
  simp only [List.setIfInBounds_toArray, List.set_cons_zero, List.set_cons_succ]
  refine take_yes 3 6 rfl rfl (by kernel_rfl) (by kernel_rfl) (by kernel_rfl) (fun _ _ _ h => h) (by assumption) (by rfl) (v := ?_) ?_ ?_
  rotate_left 1
  · (intro w hSw; (try dsimp only at hSw); go_simp; try with_reducible rfl)
  simp only [List.setIfInBounds_toArray, List.set_cons_zero, List.set_cons_succ]
  -- 4:  dst := some 7, op := Op.call  callee := Callee.value (Operand.func 57), args := #[Operand.tmp 6], argTypes := #[38] , type := 
  refine wpAnyH_ready (rs := [4]) (by kernel_rfl) (by simp) ?_
  refine AllReadyH.cons rfl (fun K hK => ?_) AllReadyH.nil
  go_simp
  go_at_call 57
  refine (HC2.out w1.drew _ ⟨_, _, rfl, HX.out.1.below H1.out.2.2.drew, HX.out.2.below H1.out.2.2.drew⟩).mono ?_
  rintro e w3 ⟨v3, rfl, ⟨p3, q3, rfl, h4, h6⟩, h5'⟩
  obtain ⟨A3, n3, rfl⟩ := h4.rws.form
  obtain ⟨A4, n4, rfl⟩ := h6.rws.form
  have h5 : Below w1.heap.size w1 w3 := ⟨h5'.os, h5'.tape, h5'.output, h5'.size, h5'.block⟩
  have k0 := H1.out.1.below h5
  have k1 := H1.out.2.1.below h5
  have i0 := k0.cell 0 _ rfl
  have i1 := k0.cell 1 _ rfl
  have i2 := k0.cell 2 _ rfl
  have i3 := k0.cell 3 _ rfl
  have j0 := k1.cell 0 _ rfl
  have j1 := k1.cell 1 _ rfl
  have j2 := k1.cell 2 _ rfl
  have j3 := k1.cell 3 _ rfl
  have g0 := k1.free 0
  have g1 := k1.free 1
  have g2 := k1.free 2
  have g3 := k1.free 3
  have H3 := Lib.hid (And.intro (show RwsF (fun g => w1.heap.size ≤ g ∧ g < w3.heap.size) w3 _ Ps from h4) (And.intro (show RwsF (fun g => w1.heap.size ≤ g ∧ g < w3.heap.size) w3 _ Qs from h6) (And.intro k1 (And.intro (H1.out.2.2.trans (h5.mono H1.out.2.2.size)) h5.size))))
  clear h4 h5 h5' h6 k0 k1
  go_wp2_with fail
  refine hK.out _ _ ⟨i0, i1, i2, i3⟩ (fun hHeld4 => ?_)
  clear hK K
  try simp only [Act.put, List.setIfInBounds_toArray, List.set_cons_zero, List.set_cons_succ]
  refine take_yes 5 8 rfl rfl (by kernel_rfl) (by kernel_rfl) (by kernel_rfl) (fun _ _ _ h => h) (by assumption) (by rfl) (v := ?_) ?_ ?_
  rotate_left 1
  · (intro w hSw; (try dsimp only at hSw); go_simp; try with_reducible rfl)
  simp only [List.setIfInBounds_toArray, List.set_cons_zero, List.set_cons_succ]
  -- 6:  dst := none, op := Op.store 58 (Operand.tmp 2) (Operand.tmp 8), type := 0
  refine wpAnyH_ready (rs := [6]) (by kernel_rfl) (by simp) ?_
  refine AllReadyH.cons rfl (fun K hK => ?_) AllReadyH.nil
  go_simp
  have hq : True := trivial
  refine hK.out _ _ ⟨by go_keep, by go_keep, by go_keep, by go_keep⟩ (fun hHeld6 => ?_)
  clear hK K
  try simp only [Act.put, List.setIfInBounds_toArray, List.set_cons_zero, List.set_cons_succ]
  refine wpAnyH_done (by kernel_rfl) ?_ _
  have hch : Chg w3 ((((w3.setCell ⟨w.heap.size + 1, 0, none⟩ (.int .i64 wit)).setCell ⟨w.heap.size + 1, 1, none⟩ (.int .i64 ix)).setCell ⟨w.heap.size + 1, 2, none⟩ (.slice A3 Ps.length n3)).setCell ⟨w.heap.size + 1, 3, none⟩ (.slice A4 Qs.length n4)) (fun k => k = w.heap.size + 1) := chg_cell (chg_cell (chg_cell (chg_cell (Chg.refl w3 _) 0 _) 1 _) 2 _) 3 _
  have hfin : Blk ((((w3.setCell ⟨w.heap.size + 1, 0, none⟩ (.int .i64 wit)).setCell ⟨w.heap.size + 1, 1, none⟩ (.int .i64 ix)).setCell ⟨w.heap.size + 1, 2, none⟩ (.slice A3 Ps.length n3)).setCell ⟨w.heap.size + 1, 3, none⟩ (.slice A4 Qs.length n4)) (w.heap.size + 1) 58 [.int .i64 wit, .int .i64 ix, .slice A3 Ps.length n3, .slice A4 Qs.length n4] := (((H3.out.2.2.1.set 0 _ (by simp)).set 1 _ (by simp)).set 2 _ (by simp)).set 3 _ (by simp)
  generalize (((w3.setCell ⟨w.heap.size + 1, 0, none⟩ (.int .i64 wit)).setCell ⟨w.heap.size + 1, 1, none⟩ (.int .i64 ix)).setCell ⟨w.heap.size + 1, 2, none⟩ (.slice A3 Ps.length n3)).setCell ⟨w.heap.size + 1, 3, none⟩ (.slice A4 Qs.length n4) = w4 at *
  have HF := Lib.hid (And.intro hch hfin)
  clear hch hfin j0 j1 j2 j3 g0 g1 g2 g3 i0 i1 i2 i3 c0 c1 c2 c3
  go_wp2
  obtain ⟨h4, h6, h5', h7, h8⟩ := H3.out
  refine bodyPost_ret (v := .agg [.int .i64 wit, .int .i64 ix, .slice A3 Ps.length n3, .slice A4 Qs.length n4].toArray) ?_ ?_ ⟨_, rfl, ⟨_, _, rfl, ?_, ?_⟩, ?_⟩
  · exact results_cell_row Try.results40 _ _ (w.heap.size + 1) 58 _ (0, 0) _ rfl HF.out.2 under_cosig rfl size_cosig
  · rfl
  · exact (h4.chg HF.out.1 (fun g hg e => by omega)).mono (fun g hg => ⟨by omega, by have := HF.out.1.size; omega⟩)
  · exact (h6.chg HF.out.1 (fun g hg e => by omega)).mono (fun g hg => ⟨by omega, by have := HF.out.1.size; omega⟩)
  · exact h7.trans (HF.out.1.below h7.size (fun k hk => by omega))
end Go.Proofs.Ytlkgeifmppadmaa
namespace Go.Proofs.Ytlkgeifmppadmaa
open Go.RowKit
set_option linter.unusedVariables false
set_option linter.unusedSimpArgs false

/-- A policy. -/
structure PolD where
  log : List UInt8
  wits : List (List UInt8)
  quorum : Int
def PolV (w : World) (v : Value) (p : PolD) : Prop := ∃ l ws, v = .agg #[l, ws, .int .i64 p.quorum] ∧ Bys w l p.log ∧ Rws w ws p.wits
def PolF (S : Nat → Prop) (w : World) (v : Value) (p : PolD) : Prop := ∃ l ws, v = .agg #[l, ws, .int .i64 p.quorum] ∧ BysF S w l p.log ∧ RwsF S w ws p.wits
theorem PolF.polv {S : Nat → Prop} {w : World} {v : Value} {p : PolD} (h : PolF S w v p) : PolV w v p := by
  obtain ⟨l, ws, e, h1, h2⟩ := h
  exact ⟨l, ws, e, h1.1, h2.rws⟩
theorem PolV.below {w w1 : World} {v : Value} {p : PolD} (h : PolV w v p) (hb : Below w.heap.size w w1) : PolV w1 v p := by
  obtain ⟨l, ws, e, h1, h2⟩ := h
  exact ⟨l, ws, e, h1.below hb, h2.below hb⟩
theorem PolF.chg {S T : Nat → Prop} {w w1 : World} {v : Value} {p : PolD} (h : PolF S w v p) (hc : Chg w w1 T) (hS : ∀ g, S g → ¬ T g) : PolF S w1 v p := by
  obtain ⟨l, ws, e, h1, h2⟩ := h
  exact ⟨l, ws, e, h1.chg hc hS, h2.chg hc hS⟩
theorem PolF.mono {S T : Nat → Prop} {w : World} {v : Value} {p : PolD} (h : PolF S w v p) (hS : ∀ g, S g → T g) : PolF T w v p := by
  obtain ⟨l, ws, e, h1, h2⟩ := h
  exact ⟨l, ws, e, h1.mono hS, h2.mono hS⟩
def anyB (ls : List (List UInt8)) (x : List UInt8) : Bool := ls.any (fun b => b == x)
/-- The first k witnesses' keys are right. -/
def witsN (ls : List (List UInt8)) : Nat → Bool
  | 0 => true
  | k + 1 => witsN ls k && (len32 (ls.getD k []) && !(anyB (ls.take k) (ls.getD k [])))
theorem witsN_mono (ls : List (List UInt8)) (k : Nat) (h : witsN ls k = false) : ∀ j, k ≤ j → witsN ls j = false := by
  intro j hj
  induction j with
  | zero => obtain rfl : k = 0 := by omega
            exact h
  | succ j ih =>
    by_cases e : k = j + 1
    · subst e; exact h
    · show (witsN ls j && _) = false
      rw [ih (by omega), Bool.false_and]
/-- A policy may be. -/
def polB (p : PolD) : Bool := (decide (p.log.length = 32) && decide (1 ≤ p.wits.length) && decide (p.wits.length ≤ 4) && decide (1 ≤ p.quorum) && decide (p.quorum ≤ (p.wits.length : Int))) && witsN p.wits p.wits.length

theorem right1_any (x u : Value) (a b : List UInt8) (B : Nat) (w : World) (hx : Bys w x a) (hu : Bys w u b) (hB : w.cell? ⟨B, 0, none⟩ = some u) :
    Calls Try.prog 45 #[x, .pointer (some ⟨B, 0, none⟩)] w fun e w' => e = .returned (.bool (a == b)) ∧ w = w' := by
  have H := Lib.hid (same_bytes x u a b w hx hu)
  obtain ⟨A, c, rfl⟩ := hx.form
  obtain ⟨A', c', rfl⟩ := hu.form
  clear hx hu
  go_enter Try.func45, Try.ntmps45
  go_wp2_with fail
  refine H.out.mono ?_
  rintro e w' ⟨rfl, rfl⟩
  go_wp2
  go_ret
  exact ⟨rfl, rfl⟩
theorem anyB_at {ls : List (List UInt8)} {x : List UInt8} (k : Nat) (h : k < ls.length) (e : ls[k] = x) : anyB ls x = true := by
  unfold anyB
  rw [List.any_eq_true]
  exact ⟨_, List.getElem_mem h, by simp [e]⟩
theorem anyB_no {ls : List (List UInt8)} {x : List UInt8} (h : ∀ i (h : i < ls.length), ls[i] ≠ x) : anyB ls x = false := by
  unfold anyB
  rw [List.any_eq_false]
  intro y hy
  obtain ⟨i, hi, rfl⟩ := List.getElem_of_mem hy
  simpa using h i hi
set_option maxRecDepth 100000 in
set_option maxHeartbeats 2000000 in
theorem indexr_any (v u : Value) (ls : List (List UInt8)) (b : List UInt8) (B : Nat) (hsm : ls.length ≤ 1000000000) (w : World) (hx : Rws w v ls) (hu : Bys w u b) (hB : w.cell? ⟨B, 0, none⟩ = some u) :
    Calls Try.prog 66 #[v, .func (.func 45) #[] #[.pointer (some ⟨B, 0, none⟩)]] w fun e w' => ∃ r : Int, e = .returned (.int .i64 r) ∧ decide (0 ≤ r) = anyB ls b ∧ Below w.heap.size w w' := by
  obtain ⟨A, c, rfl⟩ := hx.form
  have HX := Lib.hid (And.intro hx (And.intro hu hB))
  have hBlt : B < w.heap.size := World.block_lt_of_cell? w _ hB
  clear hx hu hB
  go_enter Try.func66, Try.ntmps66
  go_wp2
  go_loopw [8] (fun v8 wr => ∃ k : Nat, v8 = .int .i64 k ∧ k ≤ ls.length ∧ Hid (Below w.heap.size w wr ∧ ∀ j (h : j < ls.length), j < k → ls[j] ≠ b)) (fun v _ => ls.length - (intOf v).toNat)
  case atStart => exact ⟨0, rfl, Nat.zero_le _, Lib.hid ⟨Below.refl _ _, fun j h hj => by omega⟩⟩
  case round =>
    obtain ⟨k, rfl, hk, HI⟩ := hrel
    by_cases hlt : k < ls.length
    · obtain ⟨g, o, un, rfl, hg, -, -, hcu, hbu⟩ := HX.out.1.at' k hlt
      have p0 := (HI.out.1.cell (p := ⟨g, o + k, none⟩) hg).trans hcu
      have HC := Lib.hid (right1_any un u ls[k] b B wr (hbu.below HI.out.1) (HX.out.2.1.below HI.out.1) ((HI.out.1.cell (p := ⟨B, 0, none⟩) hBlt).trans HX.out.2.2))
      obtain ⟨A9, c9, rfl⟩ := hbu.form
      clear hcu hbu
      by_cases h32 : ls[k] = b
      · have hnl : (ls[k] == b) = true := by simp [h32]
        have HF : Hid (anyB ls b = true) := Lib.hid (anyB_at k hlt h32)
        rw [hnl] at HC
        clear h32 hnl
        go_wp2_with (go_at_call 45; refine HC.out.mono ?_; rintro e w' ⟨rfl, rfl⟩)
        go_ret
        exact ⟨_, rfl, by rw [HF.out]; simp, HI.out.1⟩
      · have hnl : (ls[k] == b) = false := by simp [h32]
        have H32 := Lib.hid h32
        rw [hnl] at HC
        clear h32 hnl
        go_wp2_with (go_at_call 45; refine HC.out.mono ?_; rintro e w' ⟨rfl, rfl⟩)
        go_roundw
        case rel => exact ⟨k + 1, by go_num, by omega, Lib.hid ⟨HI.out.1, fun j h hj => by
          by_cases e : j = k
          · subst e; exact H32.out
          · exact HI.out.2 j h (by omega)⟩⟩
        case measure => simp [intOf]; omega
    · have HA : Hid (anyB ls b = false) := Lib.hid (anyB_no (fun j h => HI.out.2 j h (by omega)))
      go_wp2
      go_ret
      exact ⟨_, rfl, by rw [HA.out]; rfl, HI.out.1⟩
theorem containsr_any (v u : Value) (ls : List (List UInt8)) (b : List UInt8) (B : Nat) (hsm : ls.length ≤ 1000000000) (w : World) (hx : Rws w v ls) (hu : Bys w u b) (hB : w.cell? ⟨B, 0, none⟩ = some u) :
    Calls Try.prog 47 #[v, .func (.func 45) #[] #[.pointer (some ⟨B, 0, none⟩)]] w fun e w' => e = .returned (.bool (anyB ls b)) ∧ Below w.heap.size w w' := by
  have HI := Lib.hid (indexr_any v u ls b B hsm w hx hu hB)
  obtain ⟨A, c, rfl⟩ := hx.form
  clear hx hu hB
  go_enter Try.func47, Try.ntmps47
  go_wp2_with fail
  refine HI.out.mono ?_
  rintro e w1 ⟨r, rfl, h1, h2⟩
  have H1 := Lib.hid (And.intro h1 h2)
  clear h1 h2
  go_wp2
  go_ret
  exact ⟨by rw [← H1.out.1]; rfl, H1.out.2⟩
end Go.Proofs.Ytlkgeifmppadmaa
namespace Go.Proofs.Ytlkgeifmppadmaa
open Go.RowKit
set_option linter.unusedVariables false
set_option linter.unusedSimpArgs false

theorem Rws.take {w : World} {A : Option Addr} {n c : Nat} {ls : List (List UInt8)} (h : Rws w (.slice A n c) ls) (k : Nat) (hk : k ≤ ls.length) : Rws w (.slice A k c) (ls.take k) := by
  obtain ⟨us, h1, h2⟩ := h
  have hl := h1.1
  rcases Nat.eq_zero_or_pos ls.length with h0 | h0
  · obtain rfl : k = 0 := by omega
    exact ⟨[], ⟨by simp, .inl ⟨by simp, A, c, rfl⟩⟩, fun i hi => by simp at hi⟩
  · obtain ⟨g, o, rfl, rfl, h3, h4, h5, h6⟩ := h1.place h0
    have hp := Sho.piece h1 h0 0 k c (by omega) (by omega) h5
    simp only [Nat.zero_mul, Nat.add_zero, List.drop_zero, Nat.mul_one] at hp
    refine ⟨us.take k, ?_, fun i hi => ?_⟩
    · rw [List.length_take, Nat.min_eq_left hk]
      exact hp
    · rw [List.length_take] at hi
      obtain ⟨u, e, hu⟩ := h2 i (by omega)
      refine ⟨u, by rw [List.getElem?_take_of_lt (by omega)]; exact e, ?_⟩
      rw [List.getElem_take]
      exact hu
theorem Rws.room {w : World} {A : Option Addr} {n c : Nat} {ls : List (List UInt8)} (h : Rws w (.slice A n c) ls) (h0 : 0 < ls.length) : ls.length ≤ c ∧ c ≤ maxLen := by
  obtain ⟨us, h1, h2⟩ := h
  obtain ⟨g, o, rfl, rfl, h3, h4, h5, h6⟩ := h1.place h0
  exact ⟨h4, h5⟩
theorem key_any (A : Option Addr) (n c : Nat) (b : Bool) (hb : (((n : Nat) : Int) == 32) = b) (w : World) : Calls Try.prog 44 #[.slice A n c] w fun e w' => e = .returned (.bool b) ∧ w = w' := by
  go_enter Try.func44, Try.ntmps44
  go_wp2
  go_ret
  exact ⟨rfl, rfl⟩
set_option maxRecDepth 100000 in
set_option maxHeartbeats 4000000 in
theorem coright_any (v : Value) (p : PolD) (hl : p.log.length ≤ 1000000000) (hw : p.wits.length ≤ 1000000000) (hq : -1000000000 ≤ p.quorum ∧ p.quorum ≤ 1000000000) (w : World) (hv : PolV w v p) :
    Calls Try.prog 25 #[v] w fun e w' => e = .returned (.bool (polB p)) ∧ Below w.heap.size w w' := by
  obtain ⟨l, ws, rfl, h1, h2⟩ := hv
  obtain ⟨L, cl, rfl⟩ := h1.form
  obtain ⟨R, cr, rfl⟩ := h2.form
  have HPB : Hid (polB p = ((decide (p.log.length = 32) && decide (1 ≤ p.wits.length) && decide (p.wits.length ≤ 4) && decide (1 ≤ p.quorum) && decide (p.quorum ≤ (p.wits.length : Int))) && witsN p.wits p.wits.length)) := Lib.hid rfl
  have HX := Lib.hid (And.intro h1 h2)
  clear h1 h2
  generalize polB p = PB at *
  obtain ⟨log, wits, q⟩ := p
  obtain ⟨hq0, hq1⟩ := hq
  have hk0 := Blk.new w 33 [.slice L log.length cl, .slice R wits.length cr, .int .i64 q]
  have hb0 : Below w.heap.size w (w.alloc (.cells #[.slice L log.length cl, .slice R wits.length cr, .int .i64 q] 33)) := (Below.refl w.heap.size w).alloc (Nat.le_refl _) _
  have HW := Lib.hid (And.intro hk0 hb0)
  clear hk0 hb0
  go_enter Try.func25, Try.ntmps25
  by_cases k1 : log.length = 32
  · have n1 : (((log.length : Nat) : Int) == 32) = true := by simp [k1]
    have K1 := Lib.hid k1
    clear k1
    by_cases k2 : 1 ≤ wits.length
    · by_cases k3 : wits.length ≤ 4
      · by_cases k4 : 1 ≤ q
        · by_cases k5 : q ≤ (wits.length : Int)
          · have HP2 : Hid (PB = witsN wits wits.length) := Lib.hid (by rw [HPB.out]; simp [K1.out, k2, k3, k4, k5])
            clear HPB
            go_wp2
            refine code_at (fun w1 => Blk w1 w.heap.size 33 [.slice L log.length cl, .slice R wits.length cr, .int .i64 q] ∧ Below w.heap.size w w1) HW.out ?_
            intro w1 hw1
            have H1 := Lib.hid hw1
            have hsz1 := hw1.1.lt
            have q1 := hw1.1.cell 1 _ rfl
            clear hw1 HW
            go_wp2
            go_loopw [36] (fun v36 wr => ∃ k : Nat, v36 = .int .i64 k ∧ k ≤ wits.length ∧ Hid (Below w1.heap.size w1 wr ∧ witsN wits k = true)) (fun v _ => wits.length - (intOf v).toNat)
            case atStart => exact ⟨0, rfl, Nat.zero_le _, Lib.hid ⟨Below.refl _ _, rfl⟩⟩
            case round =>
              obtain ⟨k, rfl, hk, HI⟩ := hrel
              clear q1
              by_cases hlt : k < wits.length
              · have HRW := Lib.hid (HX.out.2.below H1.out.2)
                obtain ⟨g, o, u, rfl, hg, -, -, hcu, hbu⟩ := HRW.out.at' k hlt
                obtain ⟨hroom, hroom2⟩ := HRW.out.room (by omega)
                have p0 := (HI.out.1.cell (p := ⟨g, o + k, none⟩) hg).trans hcu
                have r1 := ((H1.out.1.below HI.out.1)).cell 1 _ rfl
                have hbw : w.heap.size < wr.heap.size := (H1.out.1.below HI.out.1).lt
                have hbn := hbu.below HI.out.1
                obtain ⟨A9, c9, rfl⟩ := hbn.form
                have HWS : Hid (witsN wits (k + 1) = (witsN wits k && (len32 wits[k] && !(anyB (wits.take k) wits[k])))) := Lib.hid (by
                  show (witsN wits k && (len32 (wits.getD k []) && !(anyB (wits.take k) (wits.getD k [])))) = _
                  rw [List.getD_eq_getElem?_getD, List.getElem?_eq_getElem hlt]; rfl)
                have HB := Lib.hid (And.intro hbn (HRW.out.below HI.out.1))
                have hszr := HI.out.1.size
                unfold maxLen at hroom2
                clear hcu hbu hbn
                by_cases h32 : wits[k].length = 32
                · have nk : (((wits[k].length : Nat) : Int) == 32) = true := by simp [h32]
                  have H32 : Hid (len32 wits[k] = true) := Lib.hid (by simp [len32, h32])
                  clear h32
                  have hal := (Below.refl wr.heap.size wr).alloc (Nat.le_refl _) (.cells #[.slice A9 wits[k].length c9] 30)
                  have hkB := Blk.new wr 30 [.slice A9 wits[k].length c9]
                  have HC := Lib.hid (containsr_any _ _ (wits.take k) wits[k] wr.heap.size (by rw [List.length_take]; omega) _ ((HB.out.2.take k hk).below hal) (HB.out.1.below hal) (hkB.cell 0 _ rfl))
                  have HAL := Lib.hid (HI.out.1.trans (hal.mono hszr))
                  have hsa := hal.size
                  clear hal hkB
                  generalize wits[k] = X at *
                  generalize anyB (wits.take k) X = AB at *
                  cases AB with
                  | true =>
                    have HF : Hid (PB = false) := Lib.hid (by rw [HP2.out]; exact witsN_mono wits (k + 1) (by rw [HWS.out]; simp) _ (by omega))
                    go_wp2_with (first | (go_at_call 44; refine (key_any _ _ _ true nk _).mono ?_; rintro e w' ⟨rfl, rfl⟩) | (go_at_call 47; refine HC.out.mono ?_; rintro e w2 ⟨rfl, h2⟩; have H2 := Lib.hid (HAL.out.trans (h2.mono (Nat.le_trans hszr hsa))); clear h2))
                    go_ret
                    exact ⟨by rw [HF.out]; rfl, H1.out.2.trans (H2.out.mono H1.out.2.size)⟩
                  | false =>
                    have HT : Hid (witsN wits (k + 1) = true) := Lib.hid (by rw [HWS.out, HI.out.2, H32.out]; rfl)
                    go_wp2_with (first | (go_at_call 44; refine (key_any _ _ _ true nk _).mono ?_; rintro e w' ⟨rfl, rfl⟩) | (go_at_call 47; refine HC.out.mono ?_; rintro e w2 ⟨rfl, h2⟩; have H2 := Lib.hid (HAL.out.trans (h2.mono (Nat.le_trans hszr hsa))); clear h2))
                    go_roundw
                    case rel => exact ⟨k + 1, by go_num, by omega, Lib.hid ⟨H2.out, HT.out⟩⟩
                    case measure => simp [intOf]; omega
                · have nk : (((wits[k].length : Nat) : Int) == 32) = false := by simp; omega
                  have HF : Hid (PB = false) := Lib.hid (by rw [HP2.out]; exact witsN_mono wits (k + 1) (by rw [HWS.out]; simp [len32, h32]) _ (by omega))
                  have HAL := Lib.hid (HI.out.1.alloc hszr (.cells #[.slice A9 wits[k].length c9] 30))
                  clear h32
                  go_wp2
                  go_ret
                  exact ⟨by rw [HF.out]; rfl, H1.out.2.trans (HAL.out.mono H1.out.2.size)⟩
              · have HT : Hid (PB = true) := Lib.hid (by
                  obtain rfl : k = wits.length := by omega
                  rw [HP2.out]; exact HI.out.2)
                have hnl : ¬ (k : Int) < (wits.length : Int) := by omega
                clear hlt
                go_wp2
                go_ret
                exact ⟨by rw [HT.out]; rfl, H1.out.2.trans (HI.out.1.mono H1.out.2.size)⟩
          · have HT : Hid (PB = false) := Lib.hid (by rw [HPB.out]; simp [k5])
            go_wp2
            go_ret
            exact ⟨by rw [HT.out]; rfl, HW.out.2⟩
        · have HT : Hid (PB = false) := Lib.hid (by rw [HPB.out]; simp [k4])
          go_wp2
          go_ret
          exact ⟨by rw [HT.out]; rfl, HW.out.2⟩
      · have HT : Hid (PB = false) := Lib.hid (by rw [HPB.out]; simp [k3])
        go_wp2
        go_ret
        exact ⟨by rw [HT.out]; rfl, HW.out.2⟩
    · have HT : Hid (PB = false) := Lib.hid (by rw [HPB.out]; simp [k2])
      go_wp2
      go_ret
      exact ⟨by rw [HT.out]; rfl, HW.out.2⟩
  · have n1 : (((log.length : Nat) : Int) == 32) = false := by simp; omega
    have HT : Hid (PB = false) := Lib.hid (by rw [HPB.out]; simp [k1])
    clear k1
    go_wp2
    go_ret
    exact ⟨by rw [HT.out]; rfl, HW.out.2⟩
end Go.Proofs.Ytlkgeifmppadmaa
