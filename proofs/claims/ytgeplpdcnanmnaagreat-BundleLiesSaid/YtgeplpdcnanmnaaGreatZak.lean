/- The program's SHA-256. Conditions: as each theorem states them. -/
import Derived.Test.YtgeplpdcnanmnaaGreatZai
import Derived.Test.YtgeplpdcnanmnaaGreatZag
namespace Go.Proofs.YtgeplpdcnanmnaaGreat
open Go.RowKit Go.Shelf
attribute [local go_sem] Oper.semAt_some
set_option linter.unusedVariables false
set_option linter.unusedSimpArgs false

theorem mix_8 (a b c d e f g1 h : Int) (kb g o c1 : Nat) (l : List UInt8) (hl : l.length = 64) (hc : 64 ≤ c1) (w : World) (hg : g < w.heap.size) (hx : BysAt w g o l) (hk : Blk w kb 220 (u32s shaK)) :
  Calls Tryz.prog 212 #[.agg #[.int .u32 a, .int .u32 b, .int .u32 c, .int .u32 d, .int .u32 e, .int .u32 f, .int .u32 g1, .int .u32 h], .slice (some ⟨g, o, none⟩) 64 c1, .pointer (some ⟨kb, 0, none⟩)] w fun e1 w' => e1 = .returned (.agg (u32s (mixF shaK [a, b, c, d, e, f, g1, h] l)).toArray) ∧ Below w.heap.size w w' :=
 mix_any [a, b, c, d, e, f, g1, h] shaK rfl shaK_length kb g o c1 l hl hc w hg hx hk
theorem act_at {F : Fence} {n : Nat} {P : Program} {c : Code} {Q : Exit → Act → World → Prop} {a : Act} {w : World} (h : ∀ a0, a0 = a → c.wpIn F n P Q a0 w) : c.wpIn F n P Q a w := h a rfl
theorem ix_0 (y0 y1 y2 y3 y4 y5 y6 y7 : Int) (w : World) : (Instr.index 219 (.agg #[.int .u32 y0, .int .u32 y1, .int .u32 y2, .int .u32 y3, .int .u32 y4, .int .u32 y5, .int .u32 y6, .int .u32 y7]) (.int .i64 0)).run Tryz.prog w = .ok (.int .u32 y0) w := by kernel_rfl
theorem ix_1 (y0 y1 y2 y3 y4 y5 y6 y7 : Int) (w : World) : (Instr.index 219 (.agg #[.int .u32 y0, .int .u32 y1, .int .u32 y2, .int .u32 y3, .int .u32 y4, .int .u32 y5, .int .u32 y6, .int .u32 y7]) (.int .i64 1)).run Tryz.prog w = .ok (.int .u32 y1) w := by kernel_rfl
theorem ix_2 (y0 y1 y2 y3 y4 y5 y6 y7 : Int) (w : World) : (Instr.index 219 (.agg #[.int .u32 y0, .int .u32 y1, .int .u32 y2, .int .u32 y3, .int .u32 y4, .int .u32 y5, .int .u32 y6, .int .u32 y7]) (.int .i64 2)).run Tryz.prog w = .ok (.int .u32 y2) w := by kernel_rfl
theorem ix_3 (y0 y1 y2 y3 y4 y5 y6 y7 : Int) (w : World) : (Instr.index 219 (.agg #[.int .u32 y0, .int .u32 y1, .int .u32 y2, .int .u32 y3, .int .u32 y4, .int .u32 y5, .int .u32 y6, .int .u32 y7]) (.int .i64 3)).run Tryz.prog w = .ok (.int .u32 y3) w := by kernel_rfl
theorem ix_4 (y0 y1 y2 y3 y4 y5 y6 y7 : Int) (w : World) : (Instr.index 219 (.agg #[.int .u32 y0, .int .u32 y1, .int .u32 y2, .int .u32 y3, .int .u32 y4, .int .u32 y5, .int .u32 y6, .int .u32 y7]) (.int .i64 4)).run Tryz.prog w = .ok (.int .u32 y4) w := by kernel_rfl
theorem ix_5 (y0 y1 y2 y3 y4 y5 y6 y7 : Int) (w : World) : (Instr.index 219 (.agg #[.int .u32 y0, .int .u32 y1, .int .u32 y2, .int .u32 y3, .int .u32 y4, .int .u32 y5, .int .u32 y6, .int .u32 y7]) (.int .i64 5)).run Tryz.prog w = .ok (.int .u32 y5) w := by kernel_rfl
theorem ix_6 (y0 y1 y2 y3 y4 y5 y6 y7 : Int) (w : World) : (Instr.index 219 (.agg #[.int .u32 y0, .int .u32 y1, .int .u32 y2, .int .u32 y3, .int .u32 y4, .int .u32 y5, .int .u32 y6, .int .u32 y7]) (.int .i64 6)).run Tryz.prog w = .ok (.int .u32 y6) w := by kernel_rfl
theorem ix_7 (y0 y1 y2 y3 y4 y5 y6 y7 : Int) (w : World) : (Instr.index 219 (.agg #[.int .u32 y0, .int .u32 y1, .int .u32 y2, .int .u32 y3, .int .u32 y4, .int .u32 y5, .int .u32 y6, .int .u32 y7]) (.int .i64 7)).run Tryz.prog w = .ok (.int .u32 y7) w := by kernel_rfl
def preRun (Q : List UInt8) {m : Nat} (pre : List (Fin m)) : List Int := pre.foldl (fun s x => mixF shaK s ((Q.drop (64 * x.val)).take 64)) shaH
theorem preRun_snoc (Q : List UInt8) {m : Nat} (pre : List (Fin m)) (x : Fin m) : preRun Q (pre ++ [x]) = mixF shaK (preRun Q pre) ((Q.drop (64 * x.val)).take 64) := by
 unfold preRun; rw [List.foldl_append]; rfl
theorem preRun_length (Q : List UInt8) {m : Nat} (pre : List (Fin m)) : (preRun Q pre).length = 8 := by
 unfold preRun
 generalize hs : shaH = s0
 have h8 : s0.length = 8 := by rw [← hs]; rfl
 clear hs
 induction pre generalizing s0 with
 | nil => exact h8
 | cons x pre ih => exact ih _ (mixF_length _ _ _ h8)
theorem preRun_fins (Q : List UInt8) (m : Nat) : ∀ k, k ≤ m → preRun Q (fins m k) = shaRun shaH Q k
 | 0, _ => rfl
 | k + 1, h => by rw [fins_succ h, preRun_snoc, preRun_fins Q m k (by omega)]; rfl

set_option maxRecDepth 100000 in
set_option maxHeartbeats 4000000 in
theorem psum_any (v : Value) (l : List UInt8) (hsm : l.length ≤ 1000000000000) (w : World) (hx : Bys w v l) :
  Calls Tryz.prog 194 #[v] w fun e w' => ∃ v', e = .returned v' ∧ OwnB w' w.heap.size v' (sha l) ∧ Below w.heap.size w w' := by
 obtain ⟨i0, hi0, hz0, hz1, hz2⟩ := info_parts info_u8
 obtain ⟨A, c, rfl⟩ := hx.form
 have HX := Lib.hid hx
 clear hx
 refine (callsIn_wide (n := 3)).1 ?_
 have hro : Fence.wide.round = none := rfl
 have hFn : Fence.wide.fn 215 := trivial
 refine callsIn_of_wp_marks Tryz.func194 rfl trivial ?_ hro
 refine wpIn_wide.2 ?_
 simp only [Tryz.ntmps194, List.size_toArray, List.length_cons, List.length_nil, Nat.reduceAdd, Nat.reduceSub, Array.replicate_succ, Array.replicate_zero, List.push_toArray, List.append_toArray, List.nil_append, List.cons_append]
 go_wp2_with fail
 have bel0 := (Below.refl w.heap.size w).alloc (Nat.le_refl _) (.cells (u32s shaH).toArray 219)
 refine calls_at (fun w1 => Below w.heap.size w w1 ∧ Blk w1 w.heap.size 219 (u32s shaH)) ⟨bel0, Blk.new w 219 (u32s shaH)⟩ ?_
 clear bel0
 intro w1 hw1
 refine (keys_any w1).mono ?_
 rintro e w2 ⟨rfl, h2⟩
 have HW := Lib.hid (And.intro (hw1.1.trans (h2.mono hw1.1.size)) (hw1.2.below h2))
 clear hw1 h2
 have HB4 : Hid (Blk (w2.alloc (.cells (u32s (List.replicate 64 0)).toArray 220)) w2.heap.size 220 (u32s (List.replicate 64 0))) := Lib.hid (Blk.new w2 _ _)
 go_wp2_with (refine wpList_store_row rfl 220 (.tmp 4) (.tmp 12) rfl w2.heap.size (u32s shaK).toArray rfl rfl 220 _ HB4.out (size_row64 shaK shaK_length) rfl (u32s_one shaK) ?_)
 refine calls_at (fun w3 => Below w.heap.size w w3 ∧ Blk w3 w.heap.size 219 (u32s shaH) ∧ Blk w3 w2.heap.size 220 (u32s shaK) ∧ w.heap.size < w2.heap.size) ⟨(HW.out.1.alloc HW.out.1.size _).trans ((chg_setRow _ w2.heap.size _).below (by simp; have := HW.out.1.size; omega) (fun k hk => by have := HW.out.1.size; omega)), (HW.out.2.alloc _).chg (chg_setRow _ w2.heap.size _) (by have := HW.out.2.lt; omega), blk_setRow HB4.out (u32s shaK), HW.out.2.lt⟩ ?_
 intro w3 hw3
 have HW3 := Lib.hid hw3
 have HWB : Hid (w.heap.size < w2.heap.size) := Lib.hid hw3.2.2.2
 clear hw3 HW HB4
 generalize w2.heap.size = B4 at *
 refine (clone_any _ l hsm w3 (HX.out.below HW3.out.1)).mono ?_
 rintro e w4 ⟨v4, rfl, h4, h5⟩
 obtain ⟨A4, c4, rfl⟩ := h4.form
 have HC := Lib.hid (And.intro h4 h5)
 clear h4 h5
 have HS4 : Hid (w3.heap.size ≤ w4.heap.size) := Lib.hid HC.out.2.size
 go_wp2_with (at_builtin; (refine wpList_append_any rfl (.tmp 14) (.tmp 15) 24 rfl w3.heap.size 5 i0 (.int .u8 0) 1 1 Tryz.underlying24 hi0 hz0 hz1 hz2 rfl (by decide) _ l.length (bys l) rfl (World.ownsRow.alloc HC.out.1 _) _ 1 (bys [128]) rfl (Bys.new w4 [128] 1 rfl (by decide)) (by unfold maxLen; omega) (by omega) (by simp; have := HS4.out; omega) ?_); intro v5 W5 hown5 hgrow5; have HB5 : Hid (Below w3.heap.size w3 W5) := Lib.hid (HC.out.2.trans (((Below.refl w3.heap.size w4).alloc HS4.out _).grown hgrow5 (by simp; have := HS4.out; omega) (fun k e => HC.out.1.ge e))); have HO5 : Hid (OwnB W5 w3.heap.size v5 (l ++ [128])) := Lib.hid (OwnB.append rfl hown5); clear hown5 hgrow5)
 have HZN : Hid (zn l.length < 64) := Lib.hid (by unfold zn; omega)
 go_loopw [5] (fun v5 wr => ∃ (j : Nat) (Q : List UInt8), j ≤ zn l.length ∧ Q.length = l.length + 1 + j ∧ Hid (Q = l ++ 128 :: List.replicate j 0 ∧ Below w3.heap.size w3 wr ∧ OwnB wr w3.heap.size v5 Q)) (fun v _ => l.length + 200 - lenV v)
 case atStart => exact ⟨0, l ++ [128], Nat.zero_le _, by simp, Lib.hid ⟨rfl, HB5.out, HO5.out⟩⟩
 case round =>
  obtain ⟨j, Q, hj, hQl, HQ⟩ := hrel
  obtain ⟨A6, c6, rfl⟩ := HQ.out.2.2.form
  have hQb : Q.length ≤ 1000000000200 := by have := HZN.out; omega
  have HQL := Lib.hid hQl
  clear hQl HB5 HO5 HC
  by_cases hz : j = zn l.length
  ·have hb : ((((Q.length : Nat) : Int) % 64) != 56) = false := by
    have h1 := zn_at l.length
    have h2 := HQL.out
    have : ((Q.length : Nat) : Int) % 64 = 56 := by omega
    simp [this]
   have HZ := Lib.hid hz
   clear hz
   go_wp2
   have HQ3 := Lib.hid (show Q = l ++ 128 :: List.replicate (zn l.length) 0 ∧ Below w3.heap.size w3 wr ∧ OwnB wr w3.heap.size (.slice A6 Q.length c6) Q from ⟨by rw [HQ.out.1, HZ.out], HQ.out.2.1, HQ.out.2.2⟩)
   have HP : Hid (Q.length ≤ 1000000000200) := Lib.hid hQb
   clear HQ hb hQb HQL
   generalize hQ0 : Q = Q0 at *
   clear hQ0
   go_loopw [5, 6] (fun v6 v7 wr => ∃ (j : Nat) (Q : List UInt8) (i : Int), v7 = .int .i64 i ∧ (-1 ≤ i ∧ i ≤ 7) ∧ Q.length ≤ 1000000000200 + j ∧ Hid (Q = Q0 ++ lens l.length j ∧ i = 7 - (j : Int) ∧ Below w3.heap.size w3 wr ∧ OwnB wr w3.heap.size v6 Q)) (fun _ v _ => (intOf v + 1).toNat)
   case atStart => exact ⟨0, Q0, 7, rfl, by decide, by have := HP.out; omega, Lib.hid ⟨by simp [lens], rfl, HQ3.out.2.1, HQ3.out.2.2⟩⟩
   case round =>
    obtain ⟨j, Q, i, rfl, hi, hQl, HQ⟩ := hrel
    obtain ⟨A6, c6, rfl⟩ := HQ.out.2.2.2.form
    by_cases hi1 : i = -1
    ·obtain rfl : j = 8 := by have := HQ.out.2.1; omega
     subst hi1
     have HFQ : Hid (full l = Q) := Lib.hid (by rw [HQ.out.1, HQ3.out.1]; rfl)
     have HOQ := Lib.hid (And.intro HQ.out.2.2.1 HQ.out.2.2.2)
     clear HQ HQ3 hi
     go_wp2_with fail
     refine (chunk_any A6 Q.length c6 wr).mono ?_
     rintro e W6 ⟨rfl, hW6⟩
     have hb6 := blk2 wr [.slice A6 Q.length c6] [.int .i64 64] 24 3 W6 hW6
     clear hW6
     obtain ⟨m, hm⟩ : ∃ m, Q.length = 64 * m := ⟨Q.length / 64, by have := full_cut l; rw [HFQ.out] at this; omega⟩
     have hm0 : 0 < Q.length := by have := full_length l; rw [HFQ.out] at this; omega
     obtain ⟨g, rfl, hge, hc1, hc2⟩ : ∃ g, A6 = some ⟨g, 0, none⟩ ∧ w3.heap.size ≤ g ∧ Q.length ≤ c6 ∧ c6 ≤ maxLen := by
      rcases HOQ.out.2.2 with ⟨_, h0⟩ | ⟨g, cap, cur, e, h1, h2, h3, h4, -⟩
      ·omega
      ·injection e with e1 e2 e3
       subst e3
       exact ⟨g, e1, h1, h3, h4⟩
     have HQB : Hid (Bys wr (.slice (some ⟨g, 0, none⟩) Q.length c6) Q) := Lib.hid HOQ.out.2.bys
     have HB6 := Lib.hid hb6
     have cs : W6.cell? ⟨wr.heap.size, 0, none⟩ = some (.slice (some ⟨g, 0, none⟩) (64 * m) c6) := by have := hb6.2.1.cell 0 _ rfl; rw [hm] at this; exact this
     have cn : W6.cell? ⟨wr.heap.size + 1, 0, none⟩ = some (.int .i64 64) := hb6.2.2.cell 0 _ rfl
     have hsz6 : wr.heap.size + 1 < W6.heap.size := hb6.2.2.lt
     have hB0 : w.heap.size < wr.heap.size := Nat.lt_of_lt_of_le HW3.out.2.1.lt HOQ.out.1.size
     have HBl : Hid (Below w.heap.size w W6) := Lib.hid ((HW3.out.1.trans (HOQ.out.1.mono HW3.out.1.size)).trans (hb6.1.mono (Nat.le_of_lt hB0)))
     have HH6 : Hid (Blk W6 w.heap.size 219 (u32s shaH) ∧ Blk W6 B4 220 (u32s shaK) ∧ Bys W6 (.slice (some ⟨g, 0, none⟩) Q.length c6) Q) := Lib.hid ⟨(HW3.out.2.1.below HOQ.out.1).below hb6.1, (HW3.out.2.2.1.below HOQ.out.1).below hb6.1, HQB.out.below hb6.1⟩
     clear hb6
     have hB4 : B4 < W6.heap.size := HH6.out.2.1.lt
     have hgs : g < W6.heap.size := HH6.out.2.2.lt hm0 g rfl
     have hwg : w.heap.size ≠ g := by have := HW3.out.2.1.lt; omega
     have HM := Lib.hid hm
     clear hm
     go_wp2_with fail
     refine (wpIn_wide (n := 3)).1 ?_
     have hm1 : 64 * m ≤ c6 := by have := HM.out; omega
     have hm2 : 64 * m < 100000000000000 := by have := HM.out; omega
     have hOwn : OwnFrom W6.heap.size (fun (pre : List (Fin m)) W => Blk W w.heap.size 219 (u32s (preRun Q pre)) ∧ Blk W B4 220 (u32s shaK) ∧ Bys W (.slice (some ⟨g, 0, none⟩) Q.length c6) Q ∧ Below w.heap.size w W ∧ W6.heap.size ≤ W.heap.size) := by
      intro s X Y row hs hg hr
      refine ⟨hs.1.grown hg (fun e => ?_), hs.2.1.grown hg (fun e => ?_), Sho.grown hs.2.2.1 hg (fun q hq e => ?_), hs.2.2.2.1.grown hg hs.2.2.2.1.size (fun k e => ?_), Nat.le_trans hs.2.2.2.2 hg.size⟩
      ·have := (hr _ e.symm).1
       omega
      ·have := (hr _ e.symm).1
       omega
      ·have h1 := (hr _ e.symm).1
       have h2 : g = q := by simpa [Value.ownBlock] using hq
       omega
      ·have := (hr _ e).1
       omega
     refine act_at ?_
     intro a0 ha0
     refine wpIn_rangeFunc_ownH hro (by decide) (gf := 215) (lb := #[.pointer (some ⟨wr.heap.size, 0, none⟩), .pointer (some ⟨wr.heap.size + 1, 0, none⟩)]) (by rw [ha0]; rfl) hFn (enters_of Tryz.func215 (by kernel_rfl) rfl)
      (chunk_stops Fence.wide (3 - 1) hFn hro (by decide) wr.heap.size (wr.heap.size + 1) W6.heap.size w.heap.size g m c6 hm1 hc2 hm2 (by omega) (by omega) (by omega) (by omega) W6 (Nat.le_refl _) cs cn) (fun h k => BelX.trans h k) (belX_b (Nat.le_refl _)) (Below.refl _ _) (fun _ => rfl)
      (fun pre W => Blk W w.heap.size 219 (u32s (preRun Q pre)) ∧ Blk W B4 220 (u32s shaK) ∧ Bys W (.slice (some ⟨g, 0, none⟩) Q.length c6) Q ∧ Below w.heap.size w W ∧ W6.heap.size ≤ W.heap.size)
      (fun _ _ _ => False)
      hOwn
      (fun _ _ _ _ _ hs _ _ => hs)
      ⟨HH6.out.1, HH6.out.2.1, HH6.out.2.2, HBl.out, Nat.le_refl _⟩
      (fun x a' W => a' = { tmps := (a0.tmps.setIfInBounds 41 (.slice (some ⟨g, 64 * x.val, none⟩) 64 64)).setIfInBounds 7 (.slice (some ⟨g, 64 * x.val, none⟩) 64 64), defers := [] })
      (fun x a' s X Y row hs hg hr => hs)
      ?assign ?body ?done ?stop
     case assign =>
      rintro lp pre x W K hI hK
      subst ha0
      gi_wp2
      exact hK _ _ ((KeepsOthers.refl _).from _) (BelX.refl _ _ _) hI rfl
     case body =>
      rintro lp pre x a' W hlp hr hI rfl hlt
      subst ha0
      simp only [sa, sb, sc]
      have h8 := preRun_length Q pre
      have HR : Hid (preRun Q (pre ++ [x]) = mixF shaK (preRun Q pre) ((Q.drop (64 * x.val)).take 64)) := Lib.hid (preRun_snoc Q pre x)
      obtain ⟨hH, hK4, hQQ, hBw, hW6⟩ := hI
      generalize preRun Q pre = S0 at *
      obtain ⟨y0, y1, y2, y3, y4, y5, y6, y7, rfl⟩ := eight h8
      clear h8
      have q0 := u32_get hH 0 (by simp)
      have q1 := u32_get hH 1 (by simp)
      have q2 := u32_get hH 2 (by simp)
      have q3 := u32_get hH 3 (by simp)
      have q4 := u32_get hH 4 (by simp)
      have q5 := u32_get hH 5 (by simp)
      have q6 := u32_get hH 6 (by simp)
      have q7 := u32_get hH 7 (by simp)
      simp only [List.getD_cons_zero, List.getD_cons_succ] at q0 q1 q2 q3 q4 q5 q6 q7
      have hx64 : 64 * x.val + 64 ≤ Q.length := by have := HM.out; have := x.isLt; omega
      have hlen : ((Q.drop (64 * x.val)).take 64).length = 64 := by rw [List.length_take, List.length_drop]; omega
      have HBA : Hid (BysAt W g (64 * x.val) ((Q.drop (64 * x.val)).take 64)) := Lib.hid (by
       intro k hk
       rw [hlen] at hk
       obtain ⟨g', o', e1, _, _, _, _, h6⟩ := Bys.place hQQ hm0
       injection e1 with e1
       injection e1 with e1 e2
       subst e1 e2
       have := h6 (64 * x.val + k) (by omega)
       rw [List.getElem_take, List.getElem_drop]
       rw [Nat.zero_add] at this
       exact this)
      have hgW : g < W.heap.size := hQQ.lt hm0 g rfl
      have HI := Lib.hid (And.intro hH (And.intro hK4 (And.intro hQQ hBw)))
      clear hH hK4 hQQ hBw hr
      have HM8 := Lib.hid (mixF_length shaK [y0, y1, y2, y3, y4, y5, y6, y7] ((Q.drop (64 * x.val)).take 64) rfl)
      have HLL := Lib.hid hlen
      clear hlen
      generalize (Q.drop (64 * x.val)).take 64 = X at *
      have HMX := Lib.hid (mix_8 y0 y1 y2 y3 y4 y5 y6 y7 B4 g (64 * x.val) 64 X HLL.out (by decide) W hgW HBA.out HI.out.2.1)
      generalize mixF shaK [y0, y1, y2, y3, y4, y5, y6, y7] X = M at *
      obtain ⟨m0, m1, m2, m3, m4, m5, m6, m7, rfl⟩ := eight HM8.out
      gi_wp2
      refine ⟨trivial, (CallsIn.inRound lp (callsIn_wide.2 HMX.out)).mono ?_⟩
      rintro e1 W4 ⟨rfl, h4⟩
      have HW4 := Lib.hid (And.intro h4 (HI.out.1.below h4))
      clear h4 q0 q1 q2 q3 q4 q5 q6 q7
      simp only [u32s, List.map_cons, List.map_nil]
      have f4 : ∀ k, W4.frozen? ⟨w.heap.size, k, none⟩ = false := fun k => HW4.out.2.free k
      have z0 := u32_get HW4.out.2 0 (by simp)
      have z1 := u32_get HW4.out.2 1 (by simp)
      have z2 := u32_get HW4.out.2 2 (by simp)
      have z3 := u32_get HW4.out.2 3 (by simp)
      have z4 := u32_get HW4.out.2 4 (by simp)
      have z5 := u32_get HW4.out.2 5 (by simp)
      have z6 := u32_get HW4.out.2 6 (by simp)
      have z7 := u32_get HW4.out.2 7 (by simp)
      simp only [List.getD_cons_zero, List.getD_cons_succ] at z0 z1 z2 z3 z4 z5 z6 z7
      gi_wp2
      have hch := chg_set8 W4 w.heap.size (.int .u32 m0) (.int .u32 m1) (.int .u32 m2) (.int .u32 m3) (.int .u32 m4) (.int .u32 m5) (.int .u32 m6) (.int .u32 m7)
      have hset := (((((((HW4.out.2.set 0 (.int .u32 m0) (by simp [u32s])).set 1 (.int .u32 m1) (by simp [u32s])).set 2 (.int .u32 m2) (by simp [u32s])).set 3 (.int .u32 m3) (by simp [u32s])).set 4 (.int .u32 m4) (by simp [u32s])).set 5 (.int .u32 m5) (by simp [u32s])).set 6 (.int .u32 m6) (by simp [u32s])).set 7 (.int .u32 m7) (by simp [u32s])
      have hwW : w.heap.size < W.heap.size := HI.out.1.lt
      have hB4W : B4 < W.heap.size := HI.out.2.1.lt
      have hall : Chg W _ (fun k => k = w.heap.size) := (Chg.of_below (S := fun k => k = w.heap.size) HW4.out.1).trans hch (fun _ _ h => h)
      refine ⟨⟨hall.size, fun k o hk ho hc => ?_⟩, ⟨hall.os, hall.tape, hall.output, hall.size, fun k hk hne => ?_⟩, ?_, ?_, ?_, ?_, Nat.le_trans hW6 hall.size⟩
      ·have hkW := (Array.getElem?_eq_some_iff.1 ho).1
       exact (hall.block k hkW (by omega)).trans ho
      ·exact hall.block k (by omega) (fun e => hne e)
      ·rw [HR.out]; exact hset
      ·exact HI.out.2.1.chg hall (by have := HWB.out; omega)
      ·exact Sho.chg HI.out.2.2.1 hall (fun q hq e => by
        have h2 : g = q := by simpa [Value.ownBlock] using hq
        omega)
      ·exact HI.out.2.2.2.trans (hall.below (Nat.le_of_lt hwW) (fun k hk => by omega))
     case done =>
      rintro D ys W hD rfl ⟨hH, -, -, hBw, hW6⟩ hK
      subst ha0
      have HS : Hid (preRun Q (fins m m) = shaRun shaH (full l) ((full l).length / 64)) := Lib.hid (by
       rw [preRun_fins Q m m (Nat.le_refl _), HFQ.out, HM.out, Nat.mul_div_cancel_left _ (by decide)])
      have h8 := preRun_length Q (fins m m)
      generalize preRun Q (fins m m) = S at *
      have HSH : Hid (sha l = outs S 8) := Lib.hid (by rw [HS.out]; rfl)
      clear HS
      obtain ⟨y0, y1, y2, y3, y4, y5, y6, y7, rfl⟩ := eight h8
      clear h8
      have q0 := u32_get hH 0 (by simp)
      have q1 := u32_get hH 1 (by simp)
      have q2 := u32_get hH 2 (by simp)
      have q3 := u32_get hH 3 (by simp)
      have q4 := u32_get hH 4 (by simp)
      have q5 := u32_get hH 5 (by simp)
      have q6 := u32_get hH 6 (by simp)
      have q7 := u32_get hH 7 (by simp)
      simp only [List.getD_cons_zero, List.getD_cons_succ] at q0 q1 q2 q3 q4 q5 q6 q7
      have HD := Lib.hid (And.intro hH (And.intro hBw (And.intro hW6 hK)))
      clear hH hBw hW6 hK
      obtain ⟨W8, hmk, ho8, hg8⟩ := Go.run_makeSlice_owned (P := Tryz.prog) W W.heap.size 24 5 i0 (.int .u8 0) 1 Tryz.underlying24 hi0 hz0 hz1 .i64 .i64 32 (by decide) (by rw [hz2]; decide) (by decide) (Nat.le_refl _)
      have hmk' : (Instr.makeSlice 24 (.int .i64 0) (.int .i64 32)).run Tryz.prog W = .ok (.slice (some ⟨W.heap.size, 0, none⟩) 0 32) W8 := hmk
      have hb8 : Below W.heap.size W W8 := (Below.refl W.heap.size W).grown hg8 (Nat.le_refl _) (fun k e => by cases e)
      have hbl := HD.out.1.below hb8
      have r0 := u32_get hbl 0 (by simp)
      have r1 := u32_get hbl 1 (by simp)
      have r2 := u32_get hbl 2 (by simp)
      have r3 := u32_get hbl 3 (by simp)
      have r4 := u32_get hbl 4 (by simp)
      have r5 := u32_get hbl 5 (by simp)
      have r6 := u32_get hbl 6 (by simp)
      have r7 := u32_get hbl 7 (by simp)
      simp only [List.getD_cons_zero, List.getD_cons_succ] at r0 r1 r2 r3 r4 r5 r6 r7
      have H8 := Lib.hid (And.intro hb8 (show OwnB W8 W.heap.size (.slice (some ⟨W.heap.size, 0, none⟩) 0 32) [] from ho8))
      obtain ⟨OS, hOS⟩ : ∃ OS : Nat → List UInt8, OS = outs [y0, y1, y2, y3, y4, y5, y6, y7] := ⟨_, rfl⟩
      have HOS : Hid (OS 0 = [] ∧ (∀ j, OS (j + 1) = OS j ++ be4 ([y0, y1, y2, y3, y4, y5, y6, y7].getD j 0)) ∧ (∀ j, (OS j).length = 4 * j)) := Lib.hid (by rw [hOS]; exact ⟨rfl, fun _ => rfl, fun j => outs_length _ _⟩)
      have HSO : Hid (sha l = OS 8) := Lib.hid (by rw [HSH.out, hOS])
      clear hOS HSH hmk ho8 hg8 hb8 hbl q0 q1 q2 q3 q4 q5 q6 q7
      go_wp2
      clear hmk' r0 r1 r2 r3 r4 r5 r6 r7
      go_loopw [8, 47] (fun v8 v47 wr => ∃ (j : Nat), v47 = .int .i64 j ∧ j ≤ 8 ∧ Hid (Below W.heap.size W wr ∧ OwnB wr W.heap.size v8 (OS j))) (fun _ v _ => 8 - (intOf v).toNat)
      case atStart => exact ⟨0, rfl, by decide, Lib.hid ⟨H8.out.1, by rw [HOS.out.1]; exact H8.out.2⟩⟩
      case round =>
       obtain ⟨j, rfl, hj, HJ⟩ := hrel
       obtain rfl | rfl | rfl | rfl | rfl | rfl | rfl | rfl | rfl : j = 0 ∨ j = 1 ∨ j = 2 ∨ j = 3 ∨ j = 4 ∨ j = 5 ∨ j = 6 ∨ j = 7 ∨ j = 8 := by omega
       ·obtain ⟨A8, c8, rfl⟩ := HJ.out.2.form
        have HOj : Hid (OS 1 = OS 0 ++ be4 y0) := Lib.hid (HOS.out.2.1 0)
        have hol : (OS 0).length ≤ 32 := by rw [HOS.out.2.2 0]; decide
        generalize OS 0 = O at *
        rw [show ((0 : Nat) : Int) = 0 from rfl]
        have hix := ix_0 y0 y1 y2 y3 y4 y5 y6 y7 wr
        have e1 : y0 / 16777216 % 256 = (((ub (y0 / 16777216)).toNat : Nat) : Int) := (ub_val _).symm
        have e2 : y0 / 65536 % 256 = (((ub (y0 / 65536)).toNat : Nat) : Int) := (ub_val _).symm
        have e3 : y0 / 256 % 256 = (((ub (y0 / 256)).toNat : Nat) : Int) := (ub_val _).symm
        have e4 : y0 % 256 = (((ub y0).toNat : Nat) : Int) := (ub_val _).symm
        have HBE : Hid (be4 y0 = [ub (y0 / 16777216), ub (y0 / 65536), ub (y0 / 256), ub y0]) := Lib.hid rfl
        generalize ub (y0 / 16777216) = b1 at *
        generalize ub (y0 / 65536) = b2 at *
        generalize ub (y0 / 256) = b3 at *
        generalize ub y0 = b4 at *
        go_wp2_with (at_builtin; (refine wpList_append_any rfl (.tmp 50) (.tmp 62) 24 rfl W.heap.size 5 i0 (.int .u8 0) 1 1 Tryz.underlying24 hi0 hz0 hz1 hz2 rfl (by decide) _ O.length (bys O) rfl (World.ownsRow.alloc HJ.out.2 _) _ 4 (bys [b1, b2, b3, b4]) rfl (Bys.new _ [b1, b2, b3, b4] 4 rfl (by decide)) (by unfold maxLen; omega) (by omega) (by simp; have := HJ.out.1.size; omega) ?_); intro v2 W9 hown2 hgrow2; have HB9 : Hid (Below W.heap.size W W9) := Lib.hid (HJ.out.1.trans (((Below.refl W.heap.size wr).alloc HJ.out.1.size _).grown hgrow2 (by simp; have := HJ.out.1.size; omega) (fun k e => OwnB.ge HJ.out.2 e))); have HO9 : Hid (OwnB W9 W.heap.size v2 (O ++ [b1, b2, b3, b4])) := Lib.hid (OwnB.append rfl hown2); clear hown2 hgrow2)
        go_roundw
        case rel => exact ⟨0 + 1, by go_num, by omega, Lib.hid ⟨HB9.out, by show OwnB _ _ _ (OS 1); rw [HOj.out, HBE.out]; exact HO9.out⟩⟩
        case measure => simp [intOf]
       ·obtain ⟨A8, c8, rfl⟩ := HJ.out.2.form
        have HOj : Hid (OS 2 = OS 1 ++ be4 y1) := Lib.hid (HOS.out.2.1 1)
        have hol : (OS 1).length ≤ 32 := by rw [HOS.out.2.2 1]; decide
        generalize OS 1 = O at *
        rw [show ((1 : Nat) : Int) = 1 from rfl]
        have hix := ix_1 y0 y1 y2 y3 y4 y5 y6 y7 wr
        have e1 : y1 / 16777216 % 256 = (((ub (y1 / 16777216)).toNat : Nat) : Int) := (ub_val _).symm
        have e2 : y1 / 65536 % 256 = (((ub (y1 / 65536)).toNat : Nat) : Int) := (ub_val _).symm
        have e3 : y1 / 256 % 256 = (((ub (y1 / 256)).toNat : Nat) : Int) := (ub_val _).symm
        have e4 : y1 % 256 = (((ub y1).toNat : Nat) : Int) := (ub_val _).symm
        have HBE : Hid (be4 y1 = [ub (y1 / 16777216), ub (y1 / 65536), ub (y1 / 256), ub y1]) := Lib.hid rfl
        generalize ub (y1 / 16777216) = b1 at *
        generalize ub (y1 / 65536) = b2 at *
        generalize ub (y1 / 256) = b3 at *
        generalize ub y1 = b4 at *
        go_wp2_with (at_builtin; (refine wpList_append_any rfl (.tmp 50) (.tmp 62) 24 rfl W.heap.size 5 i0 (.int .u8 0) 1 1 Tryz.underlying24 hi0 hz0 hz1 hz2 rfl (by decide) _ O.length (bys O) rfl (World.ownsRow.alloc HJ.out.2 _) _ 4 (bys [b1, b2, b3, b4]) rfl (Bys.new _ [b1, b2, b3, b4] 4 rfl (by decide)) (by unfold maxLen; omega) (by omega) (by simp; have := HJ.out.1.size; omega) ?_); intro v2 W9 hown2 hgrow2; have HB9 : Hid (Below W.heap.size W W9) := Lib.hid (HJ.out.1.trans (((Below.refl W.heap.size wr).alloc HJ.out.1.size _).grown hgrow2 (by simp; have := HJ.out.1.size; omega) (fun k e => OwnB.ge HJ.out.2 e))); have HO9 : Hid (OwnB W9 W.heap.size v2 (O ++ [b1, b2, b3, b4])) := Lib.hid (OwnB.append rfl hown2); clear hown2 hgrow2)
        go_roundw
        case rel => exact ⟨1 + 1, by go_num, by omega, Lib.hid ⟨HB9.out, by show OwnB _ _ _ (OS 2); rw [HOj.out, HBE.out]; exact HO9.out⟩⟩
        case measure => simp [intOf]
       ·obtain ⟨A8, c8, rfl⟩ := HJ.out.2.form
        have HOj : Hid (OS 3 = OS 2 ++ be4 y2) := Lib.hid (HOS.out.2.1 2)
        have hol : (OS 2).length ≤ 32 := by rw [HOS.out.2.2 2]; decide
        generalize OS 2 = O at *
        rw [show ((2 : Nat) : Int) = 2 from rfl]
        have hix := ix_2 y0 y1 y2 y3 y4 y5 y6 y7 wr
        have e1 : y2 / 16777216 % 256 = (((ub (y2 / 16777216)).toNat : Nat) : Int) := (ub_val _).symm
        have e2 : y2 / 65536 % 256 = (((ub (y2 / 65536)).toNat : Nat) : Int) := (ub_val _).symm
        have e3 : y2 / 256 % 256 = (((ub (y2 / 256)).toNat : Nat) : Int) := (ub_val _).symm
        have e4 : y2 % 256 = (((ub y2).toNat : Nat) : Int) := (ub_val _).symm
        have HBE : Hid (be4 y2 = [ub (y2 / 16777216), ub (y2 / 65536), ub (y2 / 256), ub y2]) := Lib.hid rfl
        generalize ub (y2 / 16777216) = b1 at *
        generalize ub (y2 / 65536) = b2 at *
        generalize ub (y2 / 256) = b3 at *
        generalize ub y2 = b4 at *
        go_wp2_with (at_builtin; (refine wpList_append_any rfl (.tmp 50) (.tmp 62) 24 rfl W.heap.size 5 i0 (.int .u8 0) 1 1 Tryz.underlying24 hi0 hz0 hz1 hz2 rfl (by decide) _ O.length (bys O) rfl (World.ownsRow.alloc HJ.out.2 _) _ 4 (bys [b1, b2, b3, b4]) rfl (Bys.new _ [b1, b2, b3, b4] 4 rfl (by decide)) (by unfold maxLen; omega) (by omega) (by simp; have := HJ.out.1.size; omega) ?_); intro v2 W9 hown2 hgrow2; have HB9 : Hid (Below W.heap.size W W9) := Lib.hid (HJ.out.1.trans (((Below.refl W.heap.size wr).alloc HJ.out.1.size _).grown hgrow2 (by simp; have := HJ.out.1.size; omega) (fun k e => OwnB.ge HJ.out.2 e))); have HO9 : Hid (OwnB W9 W.heap.size v2 (O ++ [b1, b2, b3, b4])) := Lib.hid (OwnB.append rfl hown2); clear hown2 hgrow2)
        go_roundw
        case rel => exact ⟨2 + 1, by go_num, by omega, Lib.hid ⟨HB9.out, by show OwnB _ _ _ (OS 3); rw [HOj.out, HBE.out]; exact HO9.out⟩⟩
        case measure => simp [intOf]
       ·obtain ⟨A8, c8, rfl⟩ := HJ.out.2.form
        have HOj : Hid (OS 4 = OS 3 ++ be4 y3) := Lib.hid (HOS.out.2.1 3)
        have hol : (OS 3).length ≤ 32 := by rw [HOS.out.2.2 3]; decide
        generalize OS 3 = O at *
        rw [show ((3 : Nat) : Int) = 3 from rfl]
        have hix := ix_3 y0 y1 y2 y3 y4 y5 y6 y7 wr
        have e1 : y3 / 16777216 % 256 = (((ub (y3 / 16777216)).toNat : Nat) : Int) := (ub_val _).symm
        have e2 : y3 / 65536 % 256 = (((ub (y3 / 65536)).toNat : Nat) : Int) := (ub_val _).symm
        have e3 : y3 / 256 % 256 = (((ub (y3 / 256)).toNat : Nat) : Int) := (ub_val _).symm
        have e4 : y3 % 256 = (((ub y3).toNat : Nat) : Int) := (ub_val _).symm
        have HBE : Hid (be4 y3 = [ub (y3 / 16777216), ub (y3 / 65536), ub (y3 / 256), ub y3]) := Lib.hid rfl
        generalize ub (y3 / 16777216) = b1 at *
        generalize ub (y3 / 65536) = b2 at *
        generalize ub (y3 / 256) = b3 at *
        generalize ub y3 = b4 at *
        go_wp2_with (at_builtin; (refine wpList_append_any rfl (.tmp 50) (.tmp 62) 24 rfl W.heap.size 5 i0 (.int .u8 0) 1 1 Tryz.underlying24 hi0 hz0 hz1 hz2 rfl (by decide) _ O.length (bys O) rfl (World.ownsRow.alloc HJ.out.2 _) _ 4 (bys [b1, b2, b3, b4]) rfl (Bys.new _ [b1, b2, b3, b4] 4 rfl (by decide)) (by unfold maxLen; omega) (by omega) (by simp; have := HJ.out.1.size; omega) ?_); intro v2 W9 hown2 hgrow2; have HB9 : Hid (Below W.heap.size W W9) := Lib.hid (HJ.out.1.trans (((Below.refl W.heap.size wr).alloc HJ.out.1.size _).grown hgrow2 (by simp; have := HJ.out.1.size; omega) (fun k e => OwnB.ge HJ.out.2 e))); have HO9 : Hid (OwnB W9 W.heap.size v2 (O ++ [b1, b2, b3, b4])) := Lib.hid (OwnB.append rfl hown2); clear hown2 hgrow2)
        go_roundw
        case rel => exact ⟨3 + 1, by go_num, by omega, Lib.hid ⟨HB9.out, by show OwnB _ _ _ (OS 4); rw [HOj.out, HBE.out]; exact HO9.out⟩⟩
        case measure => simp [intOf]
       ·obtain ⟨A8, c8, rfl⟩ := HJ.out.2.form
        have HOj : Hid (OS 5 = OS 4 ++ be4 y4) := Lib.hid (HOS.out.2.1 4)
        have hol : (OS 4).length ≤ 32 := by rw [HOS.out.2.2 4]; decide
        generalize OS 4 = O at *
        rw [show ((4 : Nat) : Int) = 4 from rfl]
        have hix := ix_4 y0 y1 y2 y3 y4 y5 y6 y7 wr
        have e1 : y4 / 16777216 % 256 = (((ub (y4 / 16777216)).toNat : Nat) : Int) := (ub_val _).symm
        have e2 : y4 / 65536 % 256 = (((ub (y4 / 65536)).toNat : Nat) : Int) := (ub_val _).symm
        have e3 : y4 / 256 % 256 = (((ub (y4 / 256)).toNat : Nat) : Int) := (ub_val _).symm
        have e4 : y4 % 256 = (((ub y4).toNat : Nat) : Int) := (ub_val _).symm
        have HBE : Hid (be4 y4 = [ub (y4 / 16777216), ub (y4 / 65536), ub (y4 / 256), ub y4]) := Lib.hid rfl
        generalize ub (y4 / 16777216) = b1 at *
        generalize ub (y4 / 65536) = b2 at *
        generalize ub (y4 / 256) = b3 at *
        generalize ub y4 = b4 at *
        go_wp2_with (at_builtin; (refine wpList_append_any rfl (.tmp 50) (.tmp 62) 24 rfl W.heap.size 5 i0 (.int .u8 0) 1 1 Tryz.underlying24 hi0 hz0 hz1 hz2 rfl (by decide) _ O.length (bys O) rfl (World.ownsRow.alloc HJ.out.2 _) _ 4 (bys [b1, b2, b3, b4]) rfl (Bys.new _ [b1, b2, b3, b4] 4 rfl (by decide)) (by unfold maxLen; omega) (by omega) (by simp; have := HJ.out.1.size; omega) ?_); intro v2 W9 hown2 hgrow2; have HB9 : Hid (Below W.heap.size W W9) := Lib.hid (HJ.out.1.trans (((Below.refl W.heap.size wr).alloc HJ.out.1.size _).grown hgrow2 (by simp; have := HJ.out.1.size; omega) (fun k e => OwnB.ge HJ.out.2 e))); have HO9 : Hid (OwnB W9 W.heap.size v2 (O ++ [b1, b2, b3, b4])) := Lib.hid (OwnB.append rfl hown2); clear hown2 hgrow2)
        go_roundw
        case rel => exact ⟨4 + 1, by go_num, by omega, Lib.hid ⟨HB9.out, by show OwnB _ _ _ (OS 5); rw [HOj.out, HBE.out]; exact HO9.out⟩⟩
        case measure => simp [intOf]
       ·obtain ⟨A8, c8, rfl⟩ := HJ.out.2.form
        have HOj : Hid (OS 6 = OS 5 ++ be4 y5) := Lib.hid (HOS.out.2.1 5)
        have hol : (OS 5).length ≤ 32 := by rw [HOS.out.2.2 5]; decide
        generalize OS 5 = O at *
        rw [show ((5 : Nat) : Int) = 5 from rfl]
        have hix := ix_5 y0 y1 y2 y3 y4 y5 y6 y7 wr
        have e1 : y5 / 16777216 % 256 = (((ub (y5 / 16777216)).toNat : Nat) : Int) := (ub_val _).symm
        have e2 : y5 / 65536 % 256 = (((ub (y5 / 65536)).toNat : Nat) : Int) := (ub_val _).symm
        have e3 : y5 / 256 % 256 = (((ub (y5 / 256)).toNat : Nat) : Int) := (ub_val _).symm
        have e4 : y5 % 256 = (((ub y5).toNat : Nat) : Int) := (ub_val _).symm
        have HBE : Hid (be4 y5 = [ub (y5 / 16777216), ub (y5 / 65536), ub (y5 / 256), ub y5]) := Lib.hid rfl
        generalize ub (y5 / 16777216) = b1 at *
        generalize ub (y5 / 65536) = b2 at *
        generalize ub (y5 / 256) = b3 at *
        generalize ub y5 = b4 at *
        go_wp2_with (at_builtin; (refine wpList_append_any rfl (.tmp 50) (.tmp 62) 24 rfl W.heap.size 5 i0 (.int .u8 0) 1 1 Tryz.underlying24 hi0 hz0 hz1 hz2 rfl (by decide) _ O.length (bys O) rfl (World.ownsRow.alloc HJ.out.2 _) _ 4 (bys [b1, b2, b3, b4]) rfl (Bys.new _ [b1, b2, b3, b4] 4 rfl (by decide)) (by unfold maxLen; omega) (by omega) (by simp; have := HJ.out.1.size; omega) ?_); intro v2 W9 hown2 hgrow2; have HB9 : Hid (Below W.heap.size W W9) := Lib.hid (HJ.out.1.trans (((Below.refl W.heap.size wr).alloc HJ.out.1.size _).grown hgrow2 (by simp; have := HJ.out.1.size; omega) (fun k e => OwnB.ge HJ.out.2 e))); have HO9 : Hid (OwnB W9 W.heap.size v2 (O ++ [b1, b2, b3, b4])) := Lib.hid (OwnB.append rfl hown2); clear hown2 hgrow2)
        go_roundw
        case rel => exact ⟨5 + 1, by go_num, by omega, Lib.hid ⟨HB9.out, by show OwnB _ _ _ (OS 6); rw [HOj.out, HBE.out]; exact HO9.out⟩⟩
        case measure => simp [intOf]
       ·obtain ⟨A8, c8, rfl⟩ := HJ.out.2.form
        have HOj : Hid (OS 7 = OS 6 ++ be4 y6) := Lib.hid (HOS.out.2.1 6)
        have hol : (OS 6).length ≤ 32 := by rw [HOS.out.2.2 6]; decide
        generalize OS 6 = O at *
        rw [show ((6 : Nat) : Int) = 6 from rfl]
        have hix := ix_6 y0 y1 y2 y3 y4 y5 y6 y7 wr
        have e1 : y6 / 16777216 % 256 = (((ub (y6 / 16777216)).toNat : Nat) : Int) := (ub_val _).symm
        have e2 : y6 / 65536 % 256 = (((ub (y6 / 65536)).toNat : Nat) : Int) := (ub_val _).symm
        have e3 : y6 / 256 % 256 = (((ub (y6 / 256)).toNat : Nat) : Int) := (ub_val _).symm
        have e4 : y6 % 256 = (((ub y6).toNat : Nat) : Int) := (ub_val _).symm
        have HBE : Hid (be4 y6 = [ub (y6 / 16777216), ub (y6 / 65536), ub (y6 / 256), ub y6]) := Lib.hid rfl
        generalize ub (y6 / 16777216) = b1 at *
        generalize ub (y6 / 65536) = b2 at *
        generalize ub (y6 / 256) = b3 at *
        generalize ub y6 = b4 at *
        go_wp2_with (at_builtin; (refine wpList_append_any rfl (.tmp 50) (.tmp 62) 24 rfl W.heap.size 5 i0 (.int .u8 0) 1 1 Tryz.underlying24 hi0 hz0 hz1 hz2 rfl (by decide) _ O.length (bys O) rfl (World.ownsRow.alloc HJ.out.2 _) _ 4 (bys [b1, b2, b3, b4]) rfl (Bys.new _ [b1, b2, b3, b4] 4 rfl (by decide)) (by unfold maxLen; omega) (by omega) (by simp; have := HJ.out.1.size; omega) ?_); intro v2 W9 hown2 hgrow2; have HB9 : Hid (Below W.heap.size W W9) := Lib.hid (HJ.out.1.trans (((Below.refl W.heap.size wr).alloc HJ.out.1.size _).grown hgrow2 (by simp; have := HJ.out.1.size; omega) (fun k e => OwnB.ge HJ.out.2 e))); have HO9 : Hid (OwnB W9 W.heap.size v2 (O ++ [b1, b2, b3, b4])) := Lib.hid (OwnB.append rfl hown2); clear hown2 hgrow2)
        go_roundw
        case rel => exact ⟨6 + 1, by go_num, by omega, Lib.hid ⟨HB9.out, by show OwnB _ _ _ (OS 7); rw [HOj.out, HBE.out]; exact HO9.out⟩⟩
        case measure => simp [intOf]
       ·obtain ⟨A8, c8, rfl⟩ := HJ.out.2.form
        have HOj : Hid (OS 8 = OS 7 ++ be4 y7) := Lib.hid (HOS.out.2.1 7)
        have hol : (OS 7).length ≤ 32 := by rw [HOS.out.2.2 7]; decide
        generalize OS 7 = O at *
        rw [show ((7 : Nat) : Int) = 7 from rfl]
        have hix := ix_7 y0 y1 y2 y3 y4 y5 y6 y7 wr
        have e1 : y7 / 16777216 % 256 = (((ub (y7 / 16777216)).toNat : Nat) : Int) := (ub_val _).symm
        have e2 : y7 / 65536 % 256 = (((ub (y7 / 65536)).toNat : Nat) : Int) := (ub_val _).symm
        have e3 : y7 / 256 % 256 = (((ub (y7 / 256)).toNat : Nat) : Int) := (ub_val _).symm
        have e4 : y7 % 256 = (((ub y7).toNat : Nat) : Int) := (ub_val _).symm
        have HBE : Hid (be4 y7 = [ub (y7 / 16777216), ub (y7 / 65536), ub (y7 / 256), ub y7]) := Lib.hid rfl
        generalize ub (y7 / 16777216) = b1 at *
        generalize ub (y7 / 65536) = b2 at *
        generalize ub (y7 / 256) = b3 at *
        generalize ub y7 = b4 at *
        go_wp2_with (at_builtin; (refine wpList_append_any rfl (.tmp 50) (.tmp 62) 24 rfl W.heap.size 5 i0 (.int .u8 0) 1 1 Tryz.underlying24 hi0 hz0 hz1 hz2 rfl (by decide) _ O.length (bys O) rfl (World.ownsRow.alloc HJ.out.2 _) _ 4 (bys [b1, b2, b3, b4]) rfl (Bys.new _ [b1, b2, b3, b4] 4 rfl (by decide)) (by unfold maxLen; omega) (by omega) (by simp; have := HJ.out.1.size; omega) ?_); intro v2 W9 hown2 hgrow2; have HB9 : Hid (Below W.heap.size W W9) := Lib.hid (HJ.out.1.trans (((Below.refl W.heap.size wr).alloc HJ.out.1.size _).grown hgrow2 (by simp; have := HJ.out.1.size; omega) (fun k e => OwnB.ge HJ.out.2 e))); have HO9 : Hid (OwnB W9 W.heap.size v2 (O ++ [b1, b2, b3, b4])) := Lib.hid (OwnB.append rfl hown2); clear hown2 hgrow2)
        go_roundw
        case rel => exact ⟨7 + 1, by go_num, by omega, Lib.hid ⟨HB9.out, by show OwnB _ _ _ (OS 8); rw [HOj.out, HBE.out]; exact HO9.out⟩⟩
        case measure => simp [intOf]
       ·obtain ⟨A8, c8, rfl⟩ := HJ.out.2.form
        have HF8 := Lib.hid (show OwnB wr w.heap.size (.slice A8 (OS 8).length c8) (OS 8) from own_mono' HJ.out.2 (by have := HD.out.1.lt; omega))
        have hDl := (Array.getElem?_eq_some_iff.1 HD.out.2.2.2).1
        have HDK : Hid (wr.heap[D]? = some (.deferred (some []))) := Lib.hid ((HJ.out.1.block D hDl).trans HD.out.2.2.2)
        have HBW : Hid (Below w.heap.size w wr) := Lib.hid (HD.out.2.1.trans (HJ.out.1.mono HD.out.2.1.size))
        have hDw : w.heap.size ≤ D := by omega
        go_wp2
        refine ⟨by simp, .inl ⟨_, _, rfl, run_takeDeferred HDK.out, ?_⟩⟩
        exact ⟨_, results_tmp rfl _ _ _, _, rfl, by rw [HSO.out]; exact ownsRow_putObj HF8.out _ HDK.out rfl, HBW.out.trans (belowK_b (w := w) (Nat.le_refl _) wr D _ _ hDw HDK.out rfl rfl)⟩
     case stop =>
      rintro D c pre W _ _ h _
      exact h.elim
    ·have hij : j = (7 - i).toNat := by have := HQ.out.2.1; omega
     obtain rfl | rfl | rfl | rfl | rfl | rfl | rfl | rfl : i = 7 ∨ i = 6 ∨ i = 5 ∨ i = 4 ∨ i = 3 ∨ i = 2 ∨ i = 1 ∨ i = 0 := by omega
     all_goals (subst hij; simp only [Int.reduceSub, Int.reduceToNat] at HQ hQl)
     ·have eb : (l.length : Int) * 8 / 72057594037927936 = (((ub ((l.length : Int) * 8 / 72057594037927936)).toNat : Nat) : Int) := by rw [ub_val]; omega
      have HL8 : Hid (lens l.length (0 + 1) = lens l.length 0 ++ [ub ((l.length : Int) * 8 / 72057594037927936)]) := Lib.hid (rfl)
      generalize ub ((l.length : Int) * 8 / 72057594037927936) = bb at *
      go_wp2_with (at_builtin; (refine wpList_append_any rfl (.tmp 28) (.tmp 37) 24 rfl w3.heap.size 5 i0 (.int .u8 0) 1 1 Tryz.underlying24 hi0 hz0 hz1 hz2 rfl (by decide) _ Q.length (bys Q) rfl (World.ownsRow.alloc HQ.out.2.2.2 _) _ 1 (bys [bb]) rfl (Bys.new wr [bb] 1 rfl (by decide)) (by unfold maxLen; omega) (by omega) (by simp; have := HQ.out.2.2.1.size; omega) ?_); intro v2 W2 hown2 hgrow2; have HBX : Hid (Below w3.heap.size wr W2) := Lib.hid (((Below.refl w3.heap.size wr).alloc (by have := HQ.out.2.2.1.size; omega) _).grown hgrow2 (by simp; have := HQ.out.2.2.1.size; omega) (fun k e => OwnB.ge HQ.out.2.2.2 e)); have HOX : Hid (OwnB W2 w3.heap.size v2 (Q ++ [bb])) := Lib.hid (OwnB.append rfl hown2); clear hown2 hgrow2)
      go_roundw
      case rel => exact ⟨0 + 1, _, 7 - 1, rfl, by omega, by rw [List.length_append]; show Q.length + 1 ≤ _; omega, Lib.hid ⟨by rw [HQ.out.1, HL8.out, List.append_assoc], by decide, HQ.out.2.2.1.trans (HBX.out), HOX.out⟩⟩
      case measure => simp [intOf]
     ·have eb : (l.length : Int) * 8 / 281474976710656 = (((ub ((l.length : Int) * 8 / 281474976710656)).toNat : Nat) : Int) := by rw [ub_val]; omega
      have HL8 : Hid (lens l.length (1 + 1) = lens l.length 1 ++ [ub ((l.length : Int) * 8 / 281474976710656)]) := Lib.hid (rfl)
      generalize ub ((l.length : Int) * 8 / 281474976710656) = bb at *
      go_wp2_with (at_builtin; (refine wpList_append_any rfl (.tmp 28) (.tmp 37) 24 rfl w3.heap.size 5 i0 (.int .u8 0) 1 1 Tryz.underlying24 hi0 hz0 hz1 hz2 rfl (by decide) _ Q.length (bys Q) rfl (World.ownsRow.alloc HQ.out.2.2.2 _) _ 1 (bys [bb]) rfl (Bys.new wr [bb] 1 rfl (by decide)) (by unfold maxLen; omega) (by omega) (by simp; have := HQ.out.2.2.1.size; omega) ?_); intro v2 W2 hown2 hgrow2; have HBX : Hid (Below w3.heap.size wr W2) := Lib.hid (((Below.refl w3.heap.size wr).alloc (by have := HQ.out.2.2.1.size; omega) _).grown hgrow2 (by simp; have := HQ.out.2.2.1.size; omega) (fun k e => OwnB.ge HQ.out.2.2.2 e)); have HOX : Hid (OwnB W2 w3.heap.size v2 (Q ++ [bb])) := Lib.hid (OwnB.append rfl hown2); clear hown2 hgrow2)
      go_roundw
      case rel => exact ⟨1 + 1, _, 6 - 1, rfl, by omega, by rw [List.length_append]; show Q.length + 1 ≤ _; omega, Lib.hid ⟨by rw [HQ.out.1, HL8.out, List.append_assoc], by decide, HQ.out.2.2.1.trans (HBX.out), HOX.out⟩⟩
      case measure => simp [intOf]
     ·have eb : (l.length : Int) * 8 / 1099511627776 = (((ub ((l.length : Int) * 8 / 1099511627776)).toNat : Nat) : Int) := by rw [ub_val]; omega
      have HL8 : Hid (lens l.length (2 + 1) = lens l.length 2 ++ [ub ((l.length : Int) * 8 / 1099511627776)]) := Lib.hid (rfl)
      generalize ub ((l.length : Int) * 8 / 1099511627776) = bb at *
      go_wp2_with (at_builtin; (refine wpList_append_any rfl (.tmp 28) (.tmp 37) 24 rfl w3.heap.size 5 i0 (.int .u8 0) 1 1 Tryz.underlying24 hi0 hz0 hz1 hz2 rfl (by decide) _ Q.length (bys Q) rfl (World.ownsRow.alloc HQ.out.2.2.2 _) _ 1 (bys [bb]) rfl (Bys.new wr [bb] 1 rfl (by decide)) (by unfold maxLen; omega) (by omega) (by simp; have := HQ.out.2.2.1.size; omega) ?_); intro v2 W2 hown2 hgrow2; have HBX : Hid (Below w3.heap.size wr W2) := Lib.hid (((Below.refl w3.heap.size wr).alloc (by have := HQ.out.2.2.1.size; omega) _).grown hgrow2 (by simp; have := HQ.out.2.2.1.size; omega) (fun k e => OwnB.ge HQ.out.2.2.2 e)); have HOX : Hid (OwnB W2 w3.heap.size v2 (Q ++ [bb])) := Lib.hid (OwnB.append rfl hown2); clear hown2 hgrow2)
      go_roundw
      case rel => exact ⟨2 + 1, _, 5 - 1, rfl, by omega, by rw [List.length_append]; show Q.length + 1 ≤ _; omega, Lib.hid ⟨by rw [HQ.out.1, HL8.out, List.append_assoc], by decide, HQ.out.2.2.1.trans (HBX.out), HOX.out⟩⟩
      case measure => simp [intOf]
     ·have eb : ((l.length : Int) * 8 / 4294967296) % 256 = (((ub ((l.length : Int) * 8 / 4294967296)).toNat : Nat) : Int) := (ub_val _).symm
      have HL8 : Hid (lens l.length (3 + 1) = lens l.length 3 ++ [ub ((l.length : Int) * 8 / 4294967296)]) := Lib.hid (rfl)
      generalize ub ((l.length : Int) * 8 / 4294967296) = bb at *
      go_wp2_with (at_builtin; (refine wpList_append_any rfl (.tmp 28) (.tmp 37) 24 rfl w3.heap.size 5 i0 (.int .u8 0) 1 1 Tryz.underlying24 hi0 hz0 hz1 hz2 rfl (by decide) _ Q.length (bys Q) rfl (World.ownsRow.alloc HQ.out.2.2.2 _) _ 1 (bys [bb]) rfl (Bys.new wr [bb] 1 rfl (by decide)) (by unfold maxLen; omega) (by omega) (by simp; have := HQ.out.2.2.1.size; omega) ?_); intro v2 W2 hown2 hgrow2; have HBX : Hid (Below w3.heap.size wr W2) := Lib.hid (((Below.refl w3.heap.size wr).alloc (by have := HQ.out.2.2.1.size; omega) _).grown hgrow2 (by simp; have := HQ.out.2.2.1.size; omega) (fun k e => OwnB.ge HQ.out.2.2.2 e)); have HOX : Hid (OwnB W2 w3.heap.size v2 (Q ++ [bb])) := Lib.hid (OwnB.append rfl hown2); clear hown2 hgrow2)
      go_roundw
      case rel => exact ⟨3 + 1, _, 4 - 1, rfl, by omega, by rw [List.length_append]; show Q.length + 1 ≤ _; omega, Lib.hid ⟨by rw [HQ.out.1, HL8.out, List.append_assoc], by decide, HQ.out.2.2.1.trans (HBX.out), HOX.out⟩⟩
      case measure => simp [intOf]
     ·have eb : ((l.length : Int) * 8 / 16777216) % 256 = (((ub ((l.length : Int) * 8 / 16777216)).toNat : Nat) : Int) := (ub_val _).symm
      have HL8 : Hid (lens l.length (4 + 1) = lens l.length 4 ++ [ub ((l.length : Int) * 8 / 16777216)]) := Lib.hid (rfl)
      generalize ub ((l.length : Int) * 8 / 16777216) = bb at *
      go_wp2_with (at_builtin; (refine wpList_append_any rfl (.tmp 28) (.tmp 37) 24 rfl w3.heap.size 5 i0 (.int .u8 0) 1 1 Tryz.underlying24 hi0 hz0 hz1 hz2 rfl (by decide) _ Q.length (bys Q) rfl (World.ownsRow.alloc HQ.out.2.2.2 _) _ 1 (bys [bb]) rfl (Bys.new wr [bb] 1 rfl (by decide)) (by unfold maxLen; omega) (by omega) (by simp; have := HQ.out.2.2.1.size; omega) ?_); intro v2 W2 hown2 hgrow2; have HBX : Hid (Below w3.heap.size wr W2) := Lib.hid (((Below.refl w3.heap.size wr).alloc (by have := HQ.out.2.2.1.size; omega) _).grown hgrow2 (by simp; have := HQ.out.2.2.1.size; omega) (fun k e => OwnB.ge HQ.out.2.2.2 e)); have HOX : Hid (OwnB W2 w3.heap.size v2 (Q ++ [bb])) := Lib.hid (OwnB.append rfl hown2); clear hown2 hgrow2)
      go_roundw
      case rel => exact ⟨4 + 1, _, 3 - 1, rfl, by omega, by rw [List.length_append]; show Q.length + 1 ≤ _; omega, Lib.hid ⟨by rw [HQ.out.1, HL8.out, List.append_assoc], by decide, HQ.out.2.2.1.trans (HBX.out), HOX.out⟩⟩
      case measure => simp [intOf]
     ·have eb : ((l.length : Int) * 8 / 65536) % 256 = (((ub ((l.length : Int) * 8 / 65536)).toNat : Nat) : Int) := (ub_val _).symm
      have HL8 : Hid (lens l.length (5 + 1) = lens l.length 5 ++ [ub ((l.length : Int) * 8 / 65536)]) := Lib.hid (rfl)
      generalize ub ((l.length : Int) * 8 / 65536) = bb at *
      go_wp2_with (at_builtin; (refine wpList_append_any rfl (.tmp 28) (.tmp 37) 24 rfl w3.heap.size 5 i0 (.int .u8 0) 1 1 Tryz.underlying24 hi0 hz0 hz1 hz2 rfl (by decide) _ Q.length (bys Q) rfl (World.ownsRow.alloc HQ.out.2.2.2 _) _ 1 (bys [bb]) rfl (Bys.new wr [bb] 1 rfl (by decide)) (by unfold maxLen; omega) (by omega) (by simp; have := HQ.out.2.2.1.size; omega) ?_); intro v2 W2 hown2 hgrow2; have HBX : Hid (Below w3.heap.size wr W2) := Lib.hid (((Below.refl w3.heap.size wr).alloc (by have := HQ.out.2.2.1.size; omega) _).grown hgrow2 (by simp; have := HQ.out.2.2.1.size; omega) (fun k e => OwnB.ge HQ.out.2.2.2 e)); have HOX : Hid (OwnB W2 w3.heap.size v2 (Q ++ [bb])) := Lib.hid (OwnB.append rfl hown2); clear hown2 hgrow2)
      go_roundw
      case rel => exact ⟨5 + 1, _, 2 - 1, rfl, by omega, by rw [List.length_append]; show Q.length + 1 ≤ _; omega, Lib.hid ⟨by rw [HQ.out.1, HL8.out, List.append_assoc], by decide, HQ.out.2.2.1.trans (HBX.out), HOX.out⟩⟩
      case measure => simp [intOf]
     ·have eb : ((l.length : Int) * 8 / 256) % 256 = (((ub ((l.length : Int) * 8 / 256)).toNat : Nat) : Int) := (ub_val _).symm
      have HL8 : Hid (lens l.length (6 + 1) = lens l.length 6 ++ [ub ((l.length : Int) * 8 / 256)]) := Lib.hid (rfl)
      generalize ub ((l.length : Int) * 8 / 256) = bb at *
      go_wp2_with (at_builtin; (refine wpList_append_any rfl (.tmp 28) (.tmp 37) 24 rfl w3.heap.size 5 i0 (.int .u8 0) 1 1 Tryz.underlying24 hi0 hz0 hz1 hz2 rfl (by decide) _ Q.length (bys Q) rfl (World.ownsRow.alloc HQ.out.2.2.2 _) _ 1 (bys [bb]) rfl (Bys.new wr [bb] 1 rfl (by decide)) (by unfold maxLen; omega) (by omega) (by simp; have := HQ.out.2.2.1.size; omega) ?_); intro v2 W2 hown2 hgrow2; have HBX : Hid (Below w3.heap.size wr W2) := Lib.hid (((Below.refl w3.heap.size wr).alloc (by have := HQ.out.2.2.1.size; omega) _).grown hgrow2 (by simp; have := HQ.out.2.2.1.size; omega) (fun k e => OwnB.ge HQ.out.2.2.2 e)); have HOX : Hid (OwnB W2 w3.heap.size v2 (Q ++ [bb])) := Lib.hid (OwnB.append rfl hown2); clear hown2 hgrow2)
      go_roundw
      case rel => exact ⟨6 + 1, _, 1 - 1, rfl, by omega, by rw [List.length_append]; show Q.length + 1 ≤ _; omega, Lib.hid ⟨by rw [HQ.out.1, HL8.out, List.append_assoc], by decide, HQ.out.2.2.1.trans (HBX.out), HOX.out⟩⟩
      case measure => simp [intOf]
     ·have eb : ((l.length : Int) * 8) % 256 = (((ub ((l.length : Int) * 8)).toNat : Nat) : Int) := (ub_val _).symm
      have HL8 : Hid (lens l.length (7 + 1) = lens l.length 7 ++ [ub ((l.length : Int) * 8)]) := Lib.hid (by rw [show (l.length : Int) * 8 = (l.length : Int) * 8 / ((2 ^ (8 * (7 - 7)) : Nat) : Int) by simp]; rfl)
      generalize ub ((l.length : Int) * 8) = bb at *
      go_wp2_with (at_builtin; (refine wpList_append_any rfl (.tmp 28) (.tmp 37) 24 rfl w3.heap.size 5 i0 (.int .u8 0) 1 1 Tryz.underlying24 hi0 hz0 hz1 hz2 rfl (by decide) _ Q.length (bys Q) rfl (World.ownsRow.alloc HQ.out.2.2.2 _) _ 1 (bys [bb]) rfl (Bys.new wr [bb] 1 rfl (by decide)) (by unfold maxLen; omega) (by omega) (by simp; have := HQ.out.2.2.1.size; omega) ?_); intro v2 W2 hown2 hgrow2; have HBX : Hid (Below w3.heap.size wr W2) := Lib.hid (((Below.refl w3.heap.size wr).alloc (by have := HQ.out.2.2.1.size; omega) _).grown hgrow2 (by simp; have := HQ.out.2.2.1.size; omega) (fun k e => OwnB.ge HQ.out.2.2.2 e)); have HOX : Hid (OwnB W2 w3.heap.size v2 (Q ++ [bb])) := Lib.hid (OwnB.append rfl hown2); clear hown2 hgrow2)
      go_roundw
      case rel => exact ⟨7 + 1, _, 0 - 1, rfl, by omega, by rw [List.length_append]; show Q.length + 1 ≤ _; omega, Lib.hid ⟨by rw [HQ.out.1, HL8.out, List.append_assoc], by decide, HQ.out.2.2.1.trans (HBX.out), HOX.out⟩⟩
      case measure => simp [intOf]
  ·have hb : ((((Q.length : Nat) : Int) % 64) != 56) = true := by
    have h2 := HQL.out
    have h4 : (l.length + 1 + j) % 64 ≠ 56 := fun h => hz (zn_first _ _ h hj)
    have : ((Q.length : Nat) : Int) % 64 ≠ 56 := by omega
    simp [this]
   have HZ := Lib.hid hz
   clear hz
   have hsz3 := HQ.out.2.1.size
   go_wp2_with (at_builtin; (refine wpList_append_any rfl (.tmp 21) (.tmp 22) 24 rfl w3.heap.size 5 i0 (.int .u8 0) 1 1 Tryz.underlying24 hi0 hz0 hz1 hz2 rfl (by decide) _ Q.length (bys Q) rfl (World.ownsRow.alloc HQ.out.2.2 _) _ 1 (bys [0]) rfl (Bys.new wr [0] 1 rfl (by decide)) (by unfold maxLen; omega) (by omega) (by simp; omega) ?_); intro v3 W3 hown3 hgrow3; have HBX : Hid (Below w3.heap.size wr W3) := Lib.hid (((Below.refl w3.heap.size wr).alloc hsz3 _).grown hgrow3 (by simp; omega) (fun k e => OwnB.ge HQ.out.2.2 e)); have HOX : Hid (OwnB W3 w3.heap.size v3 (Q ++ [0])) := Lib.hid (OwnB.append rfl hown3); clear hown3 hgrow3)
   obtain ⟨A3, c3, rfl⟩ := HOX.out.form
   go_roundw
   case rel => exact ⟨j + 1, Q ++ [0], by have := HZ.out; omega, by rw [List.length_append]; have := HQL.out; simp; omega, Lib.hid ⟨by rw [HQ.out.1, List.append_assoc, List.cons_append, ← List.replicate_succ'], HQ.out.2.1.trans HBX.out, HOX.out⟩⟩
   case measure => simp [lenV]; have := HQL.out; have := HZN.out; omega
end Go.Proofs.YtgeplpdcnanmnaaGreat
