/- The reference's SHA-256. The program's SHA-256. The reference's Tagged. The program's tagged sums. The reference's keys that sign once: secrets, what is shown, the public part. Conditions: as each theorem states them. -/
import Derived.Test.YtlkgeifmppadmaaGreatKa
import Derived.Laws.CopyRow
namespace Go.Proofs.YtlkgeifmppadmaaGreat
open Go.RowKit
set_option linter.unusedVariables false
set_option linter.unusedSimpArgs false

set_option maxRecDepth 100000 in
set_option maxHeartbeats 2000000 in
theorem constants_any (w : World) : Calls Tryz.prog 93 #[] w fun e w' => e = .returned (.agg (u32s shaK).toArray) ∧ Below w.heap.size w w' := by
 have hz : ((Tryz.prog.info? 146).bind (·.zero)).map (·.cells.size) = some shaK.length := by rw [zero64]; rfl
 go_enter Tryz.func93, Tryz.ntmps93
 have HB : Hid (Blk (w.alloc (.cells (u32s (List.replicate 64 0)).toArray 146)) w.heap.size 146 (u32s (List.replicate 64 0))) := Lib.hid (Blk.new w _ _)
 go_wp2_with (first
  | (refine wpList_buildFlatArrTo rfl 146 124 64 _ rfl .u32 shaK (some 1) rfl under_row64 size_u32 hz (by kernel_rfl) ?_)
  | (refine wpList_store_rowTo rfl 146 (.tmp 0) (.tmp 1) rfl rfl w.heap.size (u32s shaK).toArray rfl rfl 146 (u32s (List.replicate 64 0)).toArray HB.out (size_row64 shaK shaK_length) rfl (u32s_one shaK) ?_))
 have hfin := blk_setRow HB.out (u32s shaK)
 refine bodyPost_ret (v := .agg (u32s shaK).toArray) ?_ ?_ ⟨rfl, ?_⟩
 ·exact results_cell_row Tryz.results93 _ _ w.heap.size 146 _ (0, 0) _ rfl hfin under_row64 rfl (size_row64 shaK shaK_length)
 ·rfl
 ·exact ((Below.refl w.heap.size w).alloc (Nat.le_refl _) _).trans ((chg_setRow _ w.heap.size _).below (by simp) (fun k hk => by omega))
theorem block_8 (a b c d e f g1 h : Int) (kb g o c1 : Nat) (l : List UInt8) (hl : l.length = 64) (hc : 64 ≤ c1) (w : World) (hg : g < w.heap.size) (hx : BysAt w g o l) (hk : Blk w kb 146 (u32s shaK)) :
  Calls Tryz.prog 94 #[.agg #[.int .u32 a, .int .u32 b, .int .u32 c, .int .u32 d, .int .u32 e, .int .u32 f, .int .u32 g1, .int .u32 h], .pointer (some ⟨kb, 0, none⟩), .slice (some ⟨g, o, none⟩) 64 c1] w fun e1 w' => e1 = .returned (.agg (u32s (mixF shaK [a, b, c, d, e, f, g1, h] l)).toArray) ∧ Below w.heap.size w w' :=
 block_any [a, b, c, d, e, f, g1, h] shaK rfl shaK_length kb g o c1 l hl hc w hg hx hk

set_option maxRecDepth 100000 in
set_option maxHeartbeats 4000000 in
theorem rsum_any (v : Value) (l : List UInt8) (hsm : l.length ≤ 1000000000000) (w : World) (hx : Bys w v l) :
    Calls Tryz.prog 71 #[v] w fun e w' => ∃ v', e = .returned v' ∧ OwnB w' w.heap.size v' (sha l) ∧ Below w.heap.size w w' := by
  obtain ⟨i0, hi0, hz0, hz1, hz2⟩ := info_parts info_u8
  obtain ⟨A, c, rfl⟩ := hx.form
  have HX := Lib.hid hx
  clear hx
  go_enter Tryz.func71, Tryz.ntmps71
  go_wp2_with fail
  have bel0 := (Below.refl w.heap.size w).alloc (Nat.le_refl _) (.cells (u32s shaH).toArray 145)
  refine calls_at (fun w1 => Below w.heap.size w w1 ∧ Blk w1 w.heap.size 145 (u32s shaH)) ⟨bel0, Blk.new w 145 (u32s shaH)⟩ ?_
  clear bel0
  intro w1 hw1
  refine (constants_any w1).mono ?_
  rintro e w2 ⟨rfl, h2⟩
  have HW := Lib.hid (And.intro (hw1.1.trans (h2.mono hw1.1.size)) (hw1.2.below h2))
  clear hw1 h2
  have HB4 : Hid (Blk (w2.alloc (.cells (u32s (List.replicate 64 0)).toArray 146)) w2.heap.size 146 (u32s (List.replicate 64 0))) := Lib.hid (Blk.new w2 _ _)
  go_wp2_with (refine wpList_store_row rfl 146 (.tmp 4) (.tmp 11) rfl w2.heap.size (u32s shaK).toArray rfl rfl 146 _ HB4.out (size_row64 shaK shaK_length) rfl (u32s_one shaK) ?_)
  refine code_at (fun w3 => Below w.heap.size w w3 ∧ Blk w3 w.heap.size 145 (u32s shaH) ∧ Blk w3 w2.heap.size 146 (u32s shaK) ∧ w.heap.size < w2.heap.size) ⟨(HW.out.1.alloc HW.out.1.size _).trans ((chg_setRow _ w2.heap.size _).below (by simp; have := HW.out.1.size; omega) (fun k hk => by have := HW.out.1.size; omega)), (HW.out.2.alloc _).chg (chg_setRow _ w2.heap.size _) (by have := HW.out.2.lt; omega), blk_setRow HB4.out (u32s shaK), HW.out.2.lt⟩ ?_
  intro w3 hw3
  have HW3 := Lib.hid hw3
  have HWB : Hid (w.heap.size < w2.heap.size) := Lib.hid hw3.2.2.2
  clear hw3 HW HB4
  generalize w2.heap.size = B4 at *
  go_loopw [0] (fun v0 wr => ∃ (n : Nat), 64 * n ≤ l.length ∧ Hid (Below w.heap.size w wr ∧ Blk wr w.heap.size 145 (u32s (shaRun shaH l n)) ∧ Blk wr B4 146 (u32s shaK) ∧ Bys wr v0 (l.drop (64 * n)) ∧ (0 < (l.drop (64 * n)).length → ∀ q, v0.ownBlock = some q → q < w.heap.size))) (fun v _ => lenV v)
  case atStart => exact ⟨0, by omega, Lib.hid ⟨HW3.out.1, HW3.out.2.1, HW3.out.2.2.1, HX.out.below HW3.out.1, fun h0 => HX.out.lt h0⟩⟩
  case round =>
    obtain ⟨n, hn, HI⟩ := hrel
    obtain ⟨A0, c0, rfl⟩ := HI.out.2.2.2.1.form
    have HD : Hid ((l.drop (64 * n)).length + 64 * n = l.length) := Lib.hid (by rw [List.length_drop]; omega)
    generalize hDe : l.drop (64 * n) = D at *
    have HDE := Lib.hid hDe
    clear hDe
    by_cases hlt : 64 ≤ D.length
    · obtain ⟨g, o, rfl, -, hg, hc1, hc2, hcells⟩ := HI.out.2.2.2.1.place (by omega)
      have hgw : g < w.heap.size := HI.out.2.2.2.2 (by omega) g rfl
      have HBA : Hid (BysAt wr g o (D.take 64)) := Lib.hid (fun k hk => by
        have hk' : k < D.length := by rw [List.length_take] at hk; omega
        rw [List.getElem_take]; exact hcells k hk')
      clear hcells
      have hlen := shaRun_length shaH l rfl n
      have HR : Hid (shaRun shaH l (n + 1) = mixF shaK (shaRun shaH l n) (D.take 64)) := Lib.hid (by rw [← HDE.out]; rfl)
      generalize shaRun shaH l n = S0 at *
      obtain ⟨a, b, c2, d, e, f, g2, h8, rfl⟩ := eight hlen
      clear hlen
      have q0 := u32_get HI.out.2.1 0 (by simp)
      have q1 := u32_get HI.out.2.1 1 (by simp)
      have q2 := u32_get HI.out.2.1 2 (by simp)
      have q3 := u32_get HI.out.2.1 3 (by simp)
      have q4 := u32_get HI.out.2.1 4 (by simp)
      have q5 := u32_get HI.out.2.1 5 (by simp)
      have q6 := u32_get HI.out.2.1 6 (by simp)
      have q7 := u32_get HI.out.2.1 7 (by simp)
      simp only [List.getD_cons_zero, List.getD_cons_succ] at q0 q1 q2 q3 q4 q5 q6 q7
      have hc64 : (64 : Int) ≤ (c0 : Int) := by omega
      go_wp2
      refine wp_region_still_tail 3 (by kernel_rfl) (by kernel_rfl) ?_
      simp only [List.take_succ_cons, List.take_zero, List.drop_succ_cons, List.drop_zero]
      change wpStill _ _ wr.drew _ _ _
      still_step
      still_step
      still_step
      refine wpStill_nil ?_
      change wpList _ _ _ _ _ wr.drew
      clear q0 q1 q2 q3 q4 q5 q6 q7
      have HV := Lib.hid (And.intro HI.out.1.drew (And.intro HI.out.2.1.drew (And.intro HI.out.2.2.1.drew (show Bys wr.drew (.slice (some ⟨g, o, none⟩) D.length c0) D from HI.out.2.2.2.1))))
      have HBA2 : Hid (BysAt wr.drew g o (D.take 64)) := HBA
      have hg2 : g < wr.drew.heap.size := hg
      clear HBA HI
      generalize wr.drew = wz at *
      go_wp2_with fail
      refine (block_8 a b c2 d e f g2 h8 B4 g o c0 (D.take 64) (by rw [List.length_take]; omega) (by omega) _ hg2 HBA2.out HV.out.2.2.1).mono ?_
      rintro e1 w4 ⟨rfl, h4⟩
      have HM := Lib.hid (mixF_length shaK [a, b, c2, d, e, f, g2, h8] (D.take 64) rfl)
      generalize mixF shaK [a, b, c2, d, e, f, g2, h8] (D.take 64) = M at *
      have HU := Lib.hid (And.intro (HV.out.1.trans (h4.mono HV.out.1.size)) (And.intro (HV.out.2.1.below h4) (And.intro (HV.out.2.2.1.below h4) (HV.out.2.2.2.below h4))))
      clear h4 HV HBA2
      have hB : w.heap.size < B4 := HW3.out.2.2.2
      go_wp2_with (refine wpList_store_row rfl 145 (.tmp 3) (.tmp 20) rfl w.heap.size (u32s M).toArray rfl rfl 145 _ HU.out.2.1 (size_row8 M HM.out) (by simp [u32s, HM.out]) (u32s_one M) ?_)
      go_roundw
      case rel =>
        have hch := chg_setRow w4 w.heap.size (u32s M).toArray
        refine ⟨n + 1, by have := HD.out; omega, Lib.hid ⟨HU.out.1.trans (hch.below HU.out.1.size (fun k hk => by omega)), by rw [HR.out]; exact blk_setRow HU.out.2.1 (u32s M), HU.out.2.2.1.chg hch (by omega), ?_, ?_⟩⟩
        · rw [show 64 * (n + 1) = 64 * n + 64 by omega, ← List.drop_drop, HDE.out]
          by_cases hc : c0 = 64
          · rw [if_pos hc]
            exact Bys.tail_end 64 (by omega)
          · rw [if_neg hc]
            exact Sho.chg (HU.out.2.2.2.tail (by omega) 64 hlt) hch (fun q hq e => by have : g = q := by simpa [Value.ownBlock] using hq
                                                                                      omega)
        · intro _ q hq
          have : g = q := by
            by_cases hc : c0 = 64
            · rw [if_pos hc] at hq; simpa [Value.ownBlock] using hq
            · rw [if_neg hc] at hq; simpa [Value.ownBlock] using hq
          omega
      case measure => simp [lenV]; omega
    · have hD64 : D.length < 64 := by omega
      have hdf : decide ((64 : Int) ≤ (D.length : Int)) = false := by simp; omega
      have hDc : D.length ≤ 1000 := by omega
      have hnn : n ≤ 1000000000000 := by omega
      have HE : Hid (shaRun shaH l n = shaRun shaH (full l) n ∧ (full l).drop (64 * n) = D ++ 128 :: List.replicate (zn l.length) 0 ++ lens l.length 8) := Lib.hid ⟨by unfold full pad; rw [List.append_assoc, shaRun_more _ _ _ _ hn], by
        unfold full pad
        rw [List.append_assoc, List.drop_append_of_le_length hn, HDE.out, List.append_assoc]⟩
      have HV := HI
      clear HI HX HW3
      have hwr : w.heap.size ≤ wr.heap.size := HV.out.1.size
      have hB4 : Hid (B4 < wr.heap.size) := Lib.hid HV.out.2.2.1.lt
      have HNB : Hid (Blk (wr.alloc (.cells #[] 5)) wr.heap.size 5 []) := Lib.hid (Blk.new wr 5 [])
      have hal : Below wr.heap.size wr (wr.alloc (.cells #[] 5)) := (Below.refl _ _).alloc (Nat.le_refl _) _
      have HAL := Lib.hid hal
      have HSZ : Hid (wr.heap.size ≤ (wr.alloc (.cells #[] 5)).heap.size) := Lib.hid hal.size
      have HBD : Hid (Bys (wr.alloc (.cells #[] 5)) (.slice A0 D.length c0) D) := Lib.hid (HV.out.2.2.2.1.below hal)
      clear hal
      go_wp2_with (at_builtin; (first
        | ((refine wpList_append_any rfl (.tmp 23) (.tmp 24) 26 rfl wr.heap.size 5 i0 (.int .u8 0) 1 1 Tryz.underlying26 hi0 hz0 hz1 hz2 rfl (by decide) _ 0 [] rfl (own_none HNB.out (Nat.le_refl _)) _ D.length (bys D) rfl HBD.out.news (by unfold maxLen; omega) (by omega) HSZ.out ?_); intro v1 W1 hown1 hgrow1
           have HB1 : Hid (Below wr.heap.size wr W1) := Lib.hid (HAL.out.grown hgrow1 HSZ.out (fun k e => by have e' : some wr.heap.size = some k := e; injection e' with e'; omega))
           have HS1 : Hid (wr.heap.size ≤ W1.heap.size) := Lib.hid (Nat.le_trans HSZ.out hgrow1.size)
           have HO1 : Hid (OwnB W1 wr.heap.size v1 D) := Lib.hid (by unfold OwnB; simpa only [Nat.zero_add, List.nil_append] using hown1)
           clear hown1 hgrow1)
        | ((refine wpList_append_any rfl (.tmp 25) (.tmp 26) 26 rfl wr.heap.size 5 i0 (.int .u8 0) 1 1 Tryz.underlying26 hi0 hz0 hz1 hz2 rfl (by decide) _ D.length (bys D) rfl (World.ownsRow.alloc HO1.out _) _ 1 (bys [128]) rfl (Bys.new W1 [128] 1 rfl (by decide)) (by unfold maxLen; omega) (by omega) (by simp; have := HS1.out; omega) ?_); intro v2 W2 hown2 hgrow2
           have HB2 : Hid (Below wr.heap.size wr W2) := Lib.hid (HB1.out.trans (((Below.refl wr.heap.size W1).alloc HS1.out _).grown hgrow2 (by simp; have := HS1.out; omega) (fun k e => HO1.out.ge e)))
           have HS2 : Hid (wr.heap.size ≤ W2.heap.size) := Lib.hid (Nat.le_trans (by simp; have := HS1.out; omega) hgrow2.size)
           have HO2 : Hid (OwnB W2 wr.heap.size v2 (D ++ [128])) := Lib.hid (OwnB.append rfl hown2)
           clear hown2 hgrow2)))
      obtain ⟨wo, rfl⟩ : ∃ wo : World, wo = wr := ⟨_, rfl⟩
      have HDM : Hid ((l.length : Nat) % 64 = D.length ∧ zn l.length < 64) := Lib.hid ⟨by have := HD.out; omega, by unfold zn; omega⟩
      have HSO : Hid (wo.heap.size ≤ W2.heap.size) := HS2
      go_loopw [6] (fun v6 wr => ∃ (j : Nat) (Q : List UInt8), j ≤ zn l.length ∧ Q.length = D.length + 1 + j ∧ Hid (Q = D ++ 128 :: List.replicate j 0 ∧ True ∧ Below wo.heap.size W2 wr ∧ OwnB wr wo.heap.size v6 Q)) (fun v _ => 200 - lenV v)
      case atStart => exact ⟨0, D ++ [128], Nat.zero_le _, by simp, Lib.hid ⟨rfl, trivial, Below.refl _ _, HO2.out⟩⟩
      case round =>
        obtain ⟨j, Q, hj, hQl, HQ⟩ := hrel
        obtain ⟨A6, c6, rfl⟩ := HQ.out.2.2.2.form
        have hQb : Q.length ≤ 200 := by have := HDM.out.2; omega
        have HQL := Lib.hid hQl
        clear hQl
        by_cases hz : j = zn l.length
        · have hb : ((((Q.length : Nat) : Int) % 64) != 56) = false := by
            have h1 := zn_at l.length
            have h2 := HQL.out
            have h3 := HDM.out.1
            have : ((Q.length : Nat) : Int) % 64 = 56 := by omega
            simp [this]
          have HZ := Lib.hid hz
          clear hz
          go_wp2
          have HQ3 := Lib.hid (show Q = D ++ 128 :: List.replicate (zn l.length) 0 ∧ Below wo.heap.size W2 wr ∧ OwnB wr wo.heap.size (.slice A6 Q.length c6) Q from ⟨by rw [HQ.out.1, HZ.out], HQ.out.2.2.1, HQ.out.2.2.2⟩)
          have HP : Hid (Q.length ≤ 200) := Lib.hid hQb
          clear HQ hb hQb HQL
          generalize hQ0 : Q = Q0 at *
          clear hQ0
          go_loopw [6, 7] (fun v6 v7 wr => ∃ (j : Nat) (Q : List UInt8) (i : Int), v7 = .int .i64 i ∧ (-1 ≤ i ∧ i ≤ 7) ∧ Q.length ≤ 200 + j ∧ Hid (Q = Q0 ++ lens l.length j ∧ i = 7 - (j : Int) ∧ Below wo.heap.size W2 wr ∧ OwnB wr wo.heap.size v6 Q)) (fun _ v _ => (intOf v + 1).toNat)
          case atStart => exact ⟨0, Q0, 7, rfl, by decide, by have := HP.out; omega, Lib.hid ⟨by simp [lens], rfl, HQ3.out.2.1, HQ3.out.2.2⟩⟩
          case round =>
            obtain ⟨j, Q, i, rfl, hi, hQl, HQ⟩ := hrel
            obtain ⟨A6, c6, rfl⟩ := HQ.out.2.2.2.form
            by_cases hi1 : i = -1
            · obtain rfl : j = 8 := by have := HQ.out.2.1; omega
              subst hi1
              have HFQ : Hid ((full l).drop (64 * n) = Q ∧ (full l).length = 64 * n + Q.length ∧ Q.length % 64 = 0) := Lib.hid (by
                have h1 : (full l).drop (64 * n) = Q := by rw [HE.out.2, HQ.out.1, HQ3.out.1]
                have h2 : (full l).length = 64 * n + Q.length := by
                  have := full_length l
                  have h3 := congrArg List.length h1
                  rw [List.length_drop] at h3
                  omega
                have h4 := full_cut l
                exact ⟨h1, h2, by omega⟩)
              have hbw : Below wo.heap.size wo wr := HB2.out.trans HQ.out.2.2.1
              have HR2 := Lib.hid (show Below w.heap.size w wr ∧ Blk wr w.heap.size 145 (u32s (shaRun shaH (full l) n)) ∧ Blk wr B4 146 (u32s shaK) from ⟨HV.out.1.trans (hbw.mono HV.out.1.size), by rw [← HE.out.1]; exact HV.out.2.1.below hbw, HV.out.2.2.1.below hbw⟩)
              have HOQ := Lib.hid HQ.out.2.2.2
              have hwo : w.heap.size < wo.heap.size := HV.out.2.1.lt
              have hQl2 : Q.length ≤ 208 := by omega
              clear HQ hbw HQ3 hi
              go_wp2
              go_loopw [6] (fun v6 wr => ∃ (m : Nat), 64 * m ≤ Q.length ∧ Hid (Below w.heap.size w wr ∧ Blk wr w.heap.size 145 (u32s (shaRun shaH (full l) (n + m))) ∧ Blk wr B4 146 (u32s shaK) ∧ Bys wr v6 (Q.drop (64 * m)) ∧ (∀ q, v6.ownBlock = some q → wo.heap.size ≤ q))) (fun v _ => lenV v)
              case atStart => exact ⟨0, by omega, Lib.hid ⟨HR2.out.1, HR2.out.2.1, HR2.out.2.2, HOQ.out.bys, fun q hq => OwnB.ge HOQ.out hq⟩⟩
              case round =>
                obtain ⟨m, hm, HI⟩ := hrel
                obtain ⟨A6, c6, rfl⟩ := HI.out.2.2.2.1.form
                have HD2 : Hid ((Q.drop (64 * m)).length + 64 * m = Q.length) := Lib.hid (by rw [List.length_drop]; omega)
                generalize hDe : Q.drop (64 * m) = E at *
                have HEE := Lib.hid hDe
                clear hDe
                by_cases hlt : 0 < E.length
                · have hlt0 : (0 : Int) < (E.length : Int) := by omega
                  have hE64 : 64 ≤ E.length := by have := HD2.out; have := HFQ.out.2.2; omega
                  obtain ⟨g, o, rfl, -, hg, hc1, hc2, hcells⟩ := HI.out.2.2.2.1.place (by omega)
                  have hgw : wo.heap.size ≤ g := HI.out.2.2.2.2 g rfl
                  have HBA : Hid (BysAt wr g o (E.take 64)) := Lib.hid (fun k hk => by
                    have hk' : k < E.length := by rw [List.length_take] at hk; omega
                    rw [List.getElem_take]; exact hcells k hk')
                  clear hcells
                  have hlen := shaRun_length shaH (full l) rfl (n + m)
                  have HR : Hid (shaRun shaH (full l) (n + (m + 1)) = mixF shaK (shaRun shaH (full l) (n + m)) (E.take 64)) := Lib.hid (by
                    show mixF shaK (shaRun shaH (full l) (n + m)) (((full l).drop (64 * (n + m))).take 64) = _
                    rw [Nat.mul_add, ← List.drop_drop, HFQ.out.1, HEE.out])
                  generalize shaRun shaH (full l) (n + m) = S0 at *
                  obtain ⟨a, b, c2, d, e, f, g2, h8, rfl⟩ := eight hlen
                  clear hlen
                  have q0 := u32_get HI.out.2.1 0 (by simp)
                  have q1 := u32_get HI.out.2.1 1 (by simp)
                  have q2 := u32_get HI.out.2.1 2 (by simp)
                  have q3 := u32_get HI.out.2.1 3 (by simp)
                  have q4 := u32_get HI.out.2.1 4 (by simp)
                  have q5 := u32_get HI.out.2.1 5 (by simp)
                  have q6 := u32_get HI.out.2.1 6 (by simp)
                  have q7 := u32_get HI.out.2.1 7 (by simp)
                  simp only [List.getD_cons_zero, List.getD_cons_succ] at q0 q1 q2 q3 q4 q5 q6 q7
                  have hc64 : (64 : Int) ≤ (c6 : Int) := by omega
                  go_wp2
                  refine wp_region_still_tail 3 (by kernel_rfl) (by kernel_rfl) ?_
                  simp only [List.take_succ_cons, List.take_zero, List.drop_succ_cons, List.drop_zero]
                  change wpStill _ _ wr.drew _ _ _
                  still_step
                  still_step
                  still_step
                  refine wpStill_nil ?_
                  change wpList _ _ _ _ _ wr.drew
                  clear q0 q1 q2 q3 q4 q5 q6 q7
                  have HV2 := Lib.hid (And.intro HI.out.1.drew (And.intro HI.out.2.1.drew (And.intro HI.out.2.2.1.drew (show Bys wr.drew (.slice (some ⟨g, o, none⟩) E.length c6) E from HI.out.2.2.2.1))))
                  have HBA2 : Hid (BysAt wr.drew g o (E.take 64)) := HBA
                  have hg2 : g < wr.drew.heap.size := hg
                  clear HBA HI
                  generalize wr.drew = wz at *
                  go_wp2_with fail
                  refine (block_8 a b c2 d e f g2 h8 B4 g o c6 (E.take 64) (by rw [List.length_take]; omega) (by omega) _ hg2 HBA2.out HV2.out.2.2.1).mono ?_
                  rintro e1 w4 ⟨rfl, h4⟩
                  have HM := Lib.hid (mixF_length shaK [a, b, c2, d, e, f, g2, h8] (E.take 64) rfl)
                  generalize mixF shaK [a, b, c2, d, e, f, g2, h8] (E.take 64) = M at *
                  have HU := Lib.hid (And.intro (HV2.out.1.trans (h4.mono HV2.out.1.size)) (And.intro (HV2.out.2.1.below h4) (And.intro (HV2.out.2.2.1.below h4) (HV2.out.2.2.2.below h4))))
                  clear h4 HV2 HBA2
                  have hB : w.heap.size < B4 := HWB.out
                  go_wp2_with (refine wpList_store_row rfl 145 (.tmp 3) (.tmp 56) rfl w.heap.size (u32s M).toArray rfl rfl 145 _ HU.out.2.1 (size_row8 M HM.out) (by simp [u32s, HM.out]) (u32s_one M) ?_)
                  go_roundw
                  case rel =>
                    have hch := chg_setRow w4 w.heap.size (u32s M).toArray
                    refine ⟨m + 1, by have := HD2.out; omega, Lib.hid ⟨HU.out.1.trans (hch.below HU.out.1.size (fun k hk => by omega)), by rw [HR.out]; exact blk_setRow HU.out.2.1 (u32s M), HU.out.2.2.1.chg hch (by omega), ?_, ?_⟩⟩
                    · rw [show 64 * (m + 1) = 64 * m + 64 by omega, ← List.drop_drop, HEE.out]
                      by_cases hc : c6 = 64
                      · rw [if_pos hc]
                        exact Bys.tail_end 64 (by omega)
                      · rw [if_neg hc]
                        exact Sho.chg (HU.out.2.2.2.tail (by omega) 64 hE64) hch (fun q hq e => by have : g = q := by simpa [Value.ownBlock] using hq
                                                                                                   omega)
                    · intro q hq
                      have : g = q := by
                        by_cases hc : c6 = 64
                        · rw [if_pos hc] at hq; simpa [Value.ownBlock] using hq
                        · rw [if_neg hc] at hq; simpa [Value.ownBlock] using hq
                      omega
                  case measure => simp [lenV]; omega
                · have hE0 : E.length = 0 := by omega
                  have HS : Hid (shaRun shaH (full l) (n + m) = shaRun shaH (full l) ((full l).length / 64)) := Lib.hid (by
                    have h1 := HD2.out
                    have h2 := HFQ.out.2.1
                    rw [show (full l).length / 64 = n + m by omega])
                  have hbb := HI.out.2.1
                  rw [HS.out] at hbb
                  have HT := Lib.hid (And.intro HI.out.1 hbb)
                  have HL8 := Lib.hid (shaRun_length shaH (full l) rfl ((full l).length / 64))
                  clear hbb HI
                  generalize hSS : shaRun shaH (full l) ((full l).length / 64) = S at *
                  have HSS := Lib.hid hSS
                  clear hSS
                  have hEi : ((E.length : Nat) : Int) = 0 := by omega
                  have HEI := Lib.hid hEi
                  clear hEi
                  have hE1 : ¬ (0 : Int) < (E.length : Int) := by omega
                  obtain ⟨wo2, rfl⟩ : ∃ wo2 : World, wo2 = wr := ⟨_, rfl⟩
                  have hwo2 : w.heap.size < wo2.heap.size := HT.out.2.lt
                  go_wp2
                  go_loopw [8, 9] (fun v8 v9 wr => ∃ (j : Nat), v9 = .int .i64 j ∧ j ≤ 8 ∧ Hid (Below wo2.heap.size wo2 wr ∧ OwnB wr wo2.heap.size v8 (outs S j))) (fun _ v _ => 8 - (intOf v).toNat)
                  case atStart => exact ⟨0, rfl, by decide, Lib.hid ⟨Below.refl _ _, World.ownsRow_nil _ _ _ _⟩⟩
                  case round =>
                    obtain ⟨j, rfl, hj, HJ⟩ := hrel
                    by_cases hlt8 : j < 8
                    · have HBS := Lib.hid ((HT.out.2.chg (Chg.of_below (S := fun _ => False) HJ.out.1) (fun h => h)))
                      have qx := u32_get HBS.out j (by rw [HL8.out]; exact hlt8)
                      have HOS : Hid (outs S (j + 1) = outs S j ++ be4 (S.getD j 0)) := Lib.hid rfl
                      have hol : (outs S j).length ≤ 32 := by rw [outs_length]; omega
                      generalize S.getD j 0 = x at *
                      have e1 : x / 16777216 % 256 = (((ub (x / 16777216)).toNat : Nat) : Int) := (ub_val _).symm
                      have e2 : x / 65536 % 256 = (((ub (x / 65536)).toNat : Nat) : Int) := (ub_val _).symm
                      have e3 : x / 256 % 256 = (((ub (x / 256)).toNat : Nat) : Int) := (ub_val _).symm
                      have e4 : x % 256 = (((ub x).toNat : Nat) : Int) := (ub_val _).symm
                      have f1 : IntKind.u8.wrap (x / 16777216) = (((ub (x / 16777216)).toNat : Nat) : Int) := by rw [IntKind.wrap_u8]; exact (ub_val _).symm
                      have f2 : IntKind.u8.wrap (x / 65536) = (((ub (x / 65536)).toNat : Nat) : Int) := by rw [IntKind.wrap_u8]; exact (ub_val _).symm
                      have f3 : IntKind.u8.wrap (x / 256) = (((ub (x / 256)).toNat : Nat) : Int) := by rw [IntKind.wrap_u8]; exact (ub_val _).symm
                      have f4 : IntKind.u8.wrap x = (((ub x).toNat : Nat) : Int) := by rw [IntKind.wrap_u8]; exact (ub_val _).symm
                      have HBE : Hid (be4 x = [ub (x / 16777216), ub (x / 65536), ub (x / 256), ub x]) := Lib.hid rfl
                      generalize ub (x / 16777216) = b1 at *
                      generalize ub (x / 65536) = b2 at *
                      generalize ub (x / 256) = b3 at *
                      generalize ub x = b4 at *
                      go_wp2
                      go_region_law (first
                        | ((refine step_append_any rfl (.tmp 63) (.tmp 83) 26 rfl wo2.heap.size 5 i0 (.int .u8 0) 1 1 Tryz.underlying26 hi0 hz0 hz1 hz2 rfl (by decide) _ (outs S j).length (bys (outs S j)) rfl (by first | exact (HJ.out.2).any | exact World.ownsRow.alloc HJ.out.2 _) _ 4 (bys [b1, b2, b3, b4]) rfl (by first | exact Bys.new _ [b1, b2, b3, b4] 4 rfl (by decide) | exact Bys.new_drew _ [b1, b2, b3, b4] 4 rfl (by decide)) (by unfold maxLen; omega) (by omega) (by simp; have := HJ.out.1.size; omega) ?_); intro v2 W9 hown2 hgrow2
                           have HB9 : Hid (Below wo2.heap.size wo2 W9) := Lib.hid (HJ.out.1.trans (by first | exact ((((Below.refl wo2.heap.size wr).drew.alloc HJ.out.1.size _)).grown hgrow2 (by simp; have := HJ.out.1.size; omega) (fun k e => OwnB.ge HJ.out.2 e)) | exact ((((Below.refl wo2.heap.size wr).alloc HJ.out.1.size _).drew).grown hgrow2 (by simp; have := HJ.out.1.size; omega) (fun k e => OwnB.ge HJ.out.2 e))))
                           have HO9 : Hid (OwnB W9 wo2.heap.size v2 (outs S j ++ [b1, b2, b3, b4])) := Lib.hid (OwnB.append rfl hown2)
                           clear hown2 hgrow2))
                      all_goals
                        go_wp2
                        go_roundw
                        case rel => exact ⟨j + 1, by go_num, by omega, Lib.hid ⟨HB9.out, by rw [HOS.out, HBE.out]; exact HO9.out⟩⟩
                        case measure => simp [intOf]; omega
                    · obtain rfl : j = 8 := by omega
                      go_wp2
                      go_ret
                      exact ⟨_, rfl, own_mono' (by have := HJ.out.2; unfold OwnB at *; rw [← HSS.out] at this; exact this) (Nat.le_of_lt hwo2), HT.out.1.trans (HJ.out.1.mono (Nat.le_of_lt hwo2))⟩
            · have hij : j = (7 - i).toNat := by have := HQ.out.2.1; omega
              obtain rfl | rfl | rfl | rfl | rfl | rfl | rfl | rfl : i = 7 ∨ i = 6 ∨ i = 5 ∨ i = 4 ∨ i = 3 ∨ i = 2 ∨ i = 1 ∨ i = 0 := by omega
              all_goals (subst hij; simp only [Int.reduceSub, Int.reduceToNat] at HQ hQl)
              · have eb : (l.length : Int) * 8 / 72057594037927936 = (((ub ((l.length : Int) * 8 / 72057594037927936)).toNat : Nat) : Int) := by rw [ub_val]; omega
                have HL8 : Hid (lens l.length (0 + 1) = lens l.length 0 ++ [ub ((l.length : Int) * 8 / 72057594037927936)]) := Lib.hid (rfl)
                generalize ub ((l.length : Int) * 8 / 72057594037927936) = bb at *
                go_wp2_with (at_builtin; (refine wpList_append_any rfl (.tmp 39) (.tmp 48) 26 rfl wo.heap.size 5 i0 (.int .u8 0) 1 1 Tryz.underlying26 hi0 hz0 hz1 hz2 rfl (by decide) _ Q.length (bys Q) rfl (World.ownsRow.alloc HQ.out.2.2.2 _) _ 1 (bys [bb]) rfl (Bys.new wr [bb] 1 rfl (by decide)) (by unfold maxLen; omega) (by omega) (by simp; have := HQ.out.2.2.1.size; have := HSO.out; omega) ?_); intro v2 W2 hown2 hgrow2; have HBX : Hid (Below wo.heap.size wr W2) := Lib.hid (((Below.refl wo.heap.size wr).alloc (by have := HQ.out.2.2.1.size; have := HSO.out; omega) _).grown hgrow2 (by simp; have := HQ.out.2.2.1.size; have := HSO.out; omega) (fun k e => OwnB.ge HQ.out.2.2.2 e)); have HOX : Hid (OwnB W2 wo.heap.size v2 (Q ++ [bb])) := Lib.hid (OwnB.append rfl hown2); clear hown2 hgrow2)
                go_roundw
                case rel => exact ⟨0 + 1, _, 7 - 1, rfl, by omega, by rw [List.length_append]; show Q.length + 1 ≤ _; omega, Lib.hid ⟨by rw [HQ.out.1, HL8.out, List.append_assoc], by decide, HQ.out.2.2.1.trans (HBX.out), HOX.out⟩⟩
                case measure => simp [intOf]
              · have eb : (l.length : Int) * 8 / 281474976710656 = (((ub ((l.length : Int) * 8 / 281474976710656)).toNat : Nat) : Int) := by rw [ub_val]; omega
                have HL8 : Hid (lens l.length (1 + 1) = lens l.length 1 ++ [ub ((l.length : Int) * 8 / 281474976710656)]) := Lib.hid (rfl)
                generalize ub ((l.length : Int) * 8 / 281474976710656) = bb at *
                go_wp2_with (at_builtin; (refine wpList_append_any rfl (.tmp 39) (.tmp 48) 26 rfl wo.heap.size 5 i0 (.int .u8 0) 1 1 Tryz.underlying26 hi0 hz0 hz1 hz2 rfl (by decide) _ Q.length (bys Q) rfl (World.ownsRow.alloc HQ.out.2.2.2 _) _ 1 (bys [bb]) rfl (Bys.new wr [bb] 1 rfl (by decide)) (by unfold maxLen; omega) (by omega) (by simp; have := HQ.out.2.2.1.size; have := HSO.out; omega) ?_); intro v2 W2 hown2 hgrow2; have HBX : Hid (Below wo.heap.size wr W2) := Lib.hid (((Below.refl wo.heap.size wr).alloc (by have := HQ.out.2.2.1.size; have := HSO.out; omega) _).grown hgrow2 (by simp; have := HQ.out.2.2.1.size; have := HSO.out; omega) (fun k e => OwnB.ge HQ.out.2.2.2 e)); have HOX : Hid (OwnB W2 wo.heap.size v2 (Q ++ [bb])) := Lib.hid (OwnB.append rfl hown2); clear hown2 hgrow2)
                go_roundw
                case rel => exact ⟨1 + 1, _, 6 - 1, rfl, by omega, by rw [List.length_append]; show Q.length + 1 ≤ _; omega, Lib.hid ⟨by rw [HQ.out.1, HL8.out, List.append_assoc], by decide, HQ.out.2.2.1.trans (HBX.out), HOX.out⟩⟩
                case measure => simp [intOf]
              · have eb : (l.length : Int) * 8 / 1099511627776 = (((ub ((l.length : Int) * 8 / 1099511627776)).toNat : Nat) : Int) := by rw [ub_val]; omega
                have HL8 : Hid (lens l.length (2 + 1) = lens l.length 2 ++ [ub ((l.length : Int) * 8 / 1099511627776)]) := Lib.hid (rfl)
                generalize ub ((l.length : Int) * 8 / 1099511627776) = bb at *
                go_wp2_with (at_builtin; (refine wpList_append_any rfl (.tmp 39) (.tmp 48) 26 rfl wo.heap.size 5 i0 (.int .u8 0) 1 1 Tryz.underlying26 hi0 hz0 hz1 hz2 rfl (by decide) _ Q.length (bys Q) rfl (World.ownsRow.alloc HQ.out.2.2.2 _) _ 1 (bys [bb]) rfl (Bys.new wr [bb] 1 rfl (by decide)) (by unfold maxLen; omega) (by omega) (by simp; have := HQ.out.2.2.1.size; have := HSO.out; omega) ?_); intro v2 W2 hown2 hgrow2; have HBX : Hid (Below wo.heap.size wr W2) := Lib.hid (((Below.refl wo.heap.size wr).alloc (by have := HQ.out.2.2.1.size; have := HSO.out; omega) _).grown hgrow2 (by simp; have := HQ.out.2.2.1.size; have := HSO.out; omega) (fun k e => OwnB.ge HQ.out.2.2.2 e)); have HOX : Hid (OwnB W2 wo.heap.size v2 (Q ++ [bb])) := Lib.hid (OwnB.append rfl hown2); clear hown2 hgrow2)
                go_roundw
                case rel => exact ⟨2 + 1, _, 5 - 1, rfl, by omega, by rw [List.length_append]; show Q.length + 1 ≤ _; omega, Lib.hid ⟨by rw [HQ.out.1, HL8.out, List.append_assoc], by decide, HQ.out.2.2.1.trans (HBX.out), HOX.out⟩⟩
                case measure => simp [intOf]
              · have eb : ((l.length : Int) * 8 / 4294967296) % 256 = (((ub ((l.length : Int) * 8 / 4294967296)).toNat : Nat) : Int) := (ub_val _).symm
                have HL8 : Hid (lens l.length (3 + 1) = lens l.length 3 ++ [ub ((l.length : Int) * 8 / 4294967296)]) := Lib.hid (rfl)
                generalize ub ((l.length : Int) * 8 / 4294967296) = bb at *
                go_wp2_with (at_builtin; (refine wpList_append_any rfl (.tmp 39) (.tmp 48) 26 rfl wo.heap.size 5 i0 (.int .u8 0) 1 1 Tryz.underlying26 hi0 hz0 hz1 hz2 rfl (by decide) _ Q.length (bys Q) rfl (World.ownsRow.alloc HQ.out.2.2.2 _) _ 1 (bys [bb]) rfl (Bys.new wr [bb] 1 rfl (by decide)) (by unfold maxLen; omega) (by omega) (by simp; have := HQ.out.2.2.1.size; have := HSO.out; omega) ?_); intro v2 W2 hown2 hgrow2; have HBX : Hid (Below wo.heap.size wr W2) := Lib.hid (((Below.refl wo.heap.size wr).alloc (by have := HQ.out.2.2.1.size; have := HSO.out; omega) _).grown hgrow2 (by simp; have := HQ.out.2.2.1.size; have := HSO.out; omega) (fun k e => OwnB.ge HQ.out.2.2.2 e)); have HOX : Hid (OwnB W2 wo.heap.size v2 (Q ++ [bb])) := Lib.hid (OwnB.append rfl hown2); clear hown2 hgrow2)
                go_roundw
                case rel => exact ⟨3 + 1, _, 4 - 1, rfl, by omega, by rw [List.length_append]; show Q.length + 1 ≤ _; omega, Lib.hid ⟨by rw [HQ.out.1, HL8.out, List.append_assoc], by decide, HQ.out.2.2.1.trans (HBX.out), HOX.out⟩⟩
                case measure => simp [intOf]
              · have eb : ((l.length : Int) * 8 / 16777216) % 256 = (((ub ((l.length : Int) * 8 / 16777216)).toNat : Nat) : Int) := (ub_val _).symm
                have HL8 : Hid (lens l.length (4 + 1) = lens l.length 4 ++ [ub ((l.length : Int) * 8 / 16777216)]) := Lib.hid (rfl)
                generalize ub ((l.length : Int) * 8 / 16777216) = bb at *
                go_wp2_with (at_builtin; (refine wpList_append_any rfl (.tmp 39) (.tmp 48) 26 rfl wo.heap.size 5 i0 (.int .u8 0) 1 1 Tryz.underlying26 hi0 hz0 hz1 hz2 rfl (by decide) _ Q.length (bys Q) rfl (World.ownsRow.alloc HQ.out.2.2.2 _) _ 1 (bys [bb]) rfl (Bys.new wr [bb] 1 rfl (by decide)) (by unfold maxLen; omega) (by omega) (by simp; have := HQ.out.2.2.1.size; have := HSO.out; omega) ?_); intro v2 W2 hown2 hgrow2; have HBX : Hid (Below wo.heap.size wr W2) := Lib.hid (((Below.refl wo.heap.size wr).alloc (by have := HQ.out.2.2.1.size; have := HSO.out; omega) _).grown hgrow2 (by simp; have := HQ.out.2.2.1.size; have := HSO.out; omega) (fun k e => OwnB.ge HQ.out.2.2.2 e)); have HOX : Hid (OwnB W2 wo.heap.size v2 (Q ++ [bb])) := Lib.hid (OwnB.append rfl hown2); clear hown2 hgrow2)
                go_roundw
                case rel => exact ⟨4 + 1, _, 3 - 1, rfl, by omega, by rw [List.length_append]; show Q.length + 1 ≤ _; omega, Lib.hid ⟨by rw [HQ.out.1, HL8.out, List.append_assoc], by decide, HQ.out.2.2.1.trans (HBX.out), HOX.out⟩⟩
                case measure => simp [intOf]
              · have eb : ((l.length : Int) * 8 / 65536) % 256 = (((ub ((l.length : Int) * 8 / 65536)).toNat : Nat) : Int) := (ub_val _).symm
                have HL8 : Hid (lens l.length (5 + 1) = lens l.length 5 ++ [ub ((l.length : Int) * 8 / 65536)]) := Lib.hid (rfl)
                generalize ub ((l.length : Int) * 8 / 65536) = bb at *
                go_wp2_with (at_builtin; (refine wpList_append_any rfl (.tmp 39) (.tmp 48) 26 rfl wo.heap.size 5 i0 (.int .u8 0) 1 1 Tryz.underlying26 hi0 hz0 hz1 hz2 rfl (by decide) _ Q.length (bys Q) rfl (World.ownsRow.alloc HQ.out.2.2.2 _) _ 1 (bys [bb]) rfl (Bys.new wr [bb] 1 rfl (by decide)) (by unfold maxLen; omega) (by omega) (by simp; have := HQ.out.2.2.1.size; have := HSO.out; omega) ?_); intro v2 W2 hown2 hgrow2; have HBX : Hid (Below wo.heap.size wr W2) := Lib.hid (((Below.refl wo.heap.size wr).alloc (by have := HQ.out.2.2.1.size; have := HSO.out; omega) _).grown hgrow2 (by simp; have := HQ.out.2.2.1.size; have := HSO.out; omega) (fun k e => OwnB.ge HQ.out.2.2.2 e)); have HOX : Hid (OwnB W2 wo.heap.size v2 (Q ++ [bb])) := Lib.hid (OwnB.append rfl hown2); clear hown2 hgrow2)
                go_roundw
                case rel => exact ⟨5 + 1, _, 2 - 1, rfl, by omega, by rw [List.length_append]; show Q.length + 1 ≤ _; omega, Lib.hid ⟨by rw [HQ.out.1, HL8.out, List.append_assoc], by decide, HQ.out.2.2.1.trans (HBX.out), HOX.out⟩⟩
                case measure => simp [intOf]
              · have eb : ((l.length : Int) * 8 / 256) % 256 = (((ub ((l.length : Int) * 8 / 256)).toNat : Nat) : Int) := (ub_val _).symm
                have HL8 : Hid (lens l.length (6 + 1) = lens l.length 6 ++ [ub ((l.length : Int) * 8 / 256)]) := Lib.hid (rfl)
                generalize ub ((l.length : Int) * 8 / 256) = bb at *
                go_wp2_with (at_builtin; (refine wpList_append_any rfl (.tmp 39) (.tmp 48) 26 rfl wo.heap.size 5 i0 (.int .u8 0) 1 1 Tryz.underlying26 hi0 hz0 hz1 hz2 rfl (by decide) _ Q.length (bys Q) rfl (World.ownsRow.alloc HQ.out.2.2.2 _) _ 1 (bys [bb]) rfl (Bys.new wr [bb] 1 rfl (by decide)) (by unfold maxLen; omega) (by omega) (by simp; have := HQ.out.2.2.1.size; have := HSO.out; omega) ?_); intro v2 W2 hown2 hgrow2; have HBX : Hid (Below wo.heap.size wr W2) := Lib.hid (((Below.refl wo.heap.size wr).alloc (by have := HQ.out.2.2.1.size; have := HSO.out; omega) _).grown hgrow2 (by simp; have := HQ.out.2.2.1.size; have := HSO.out; omega) (fun k e => OwnB.ge HQ.out.2.2.2 e)); have HOX : Hid (OwnB W2 wo.heap.size v2 (Q ++ [bb])) := Lib.hid (OwnB.append rfl hown2); clear hown2 hgrow2)
                go_roundw
                case rel => exact ⟨6 + 1, _, 1 - 1, rfl, by omega, by rw [List.length_append]; show Q.length + 1 ≤ _; omega, Lib.hid ⟨by rw [HQ.out.1, HL8.out, List.append_assoc], by decide, HQ.out.2.2.1.trans (HBX.out), HOX.out⟩⟩
                case measure => simp [intOf]
              · have eb : ((l.length : Int) * 8) % 256 = (((ub ((l.length : Int) * 8)).toNat : Nat) : Int) := (ub_val _).symm
                have HL8 : Hid (lens l.length (7 + 1) = lens l.length 7 ++ [ub ((l.length : Int) * 8)]) := Lib.hid (by rw [show (l.length : Int) * 8 = (l.length : Int) * 8 / ((2 ^ (8 * (7 - 7)) : Nat) : Int) by simp]; rfl)
                generalize ub ((l.length : Int) * 8) = bb at *
                go_wp2_with (at_builtin; (refine wpList_append_any rfl (.tmp 39) (.tmp 48) 26 rfl wo.heap.size 5 i0 (.int .u8 0) 1 1 Tryz.underlying26 hi0 hz0 hz1 hz2 rfl (by decide) _ Q.length (bys Q) rfl (World.ownsRow.alloc HQ.out.2.2.2 _) _ 1 (bys [bb]) rfl (Bys.new wr [bb] 1 rfl (by decide)) (by unfold maxLen; omega) (by omega) (by simp; have := HQ.out.2.2.1.size; have := HSO.out; omega) ?_); intro v2 W2 hown2 hgrow2; have HBX : Hid (Below wo.heap.size wr W2) := Lib.hid (((Below.refl wo.heap.size wr).alloc (by have := HQ.out.2.2.1.size; have := HSO.out; omega) _).grown hgrow2 (by simp; have := HQ.out.2.2.1.size; have := HSO.out; omega) (fun k e => OwnB.ge HQ.out.2.2.2 e)); have HOX : Hid (OwnB W2 wo.heap.size v2 (Q ++ [bb])) := Lib.hid (OwnB.append rfl hown2); clear hown2 hgrow2)
                go_roundw
                case rel => exact ⟨7 + 1, _, 0 - 1, rfl, by omega, by rw [List.length_append]; show Q.length + 1 ≤ _; omega, Lib.hid ⟨by rw [HQ.out.1, HL8.out, List.append_assoc], by decide, HQ.out.2.2.1.trans (HBX.out), HOX.out⟩⟩
                case measure => simp [intOf]
        · have hb : ((((Q.length : Nat) : Int) % 64) != 56) = true := by
            have h2 := HQL.out
            have h3 := HDM.out.1
            have h4 : (l.length + 1 + j) % 64 ≠ 56 := fun h => hz (zn_first _ _ h hj)
            have : ((Q.length : Nat) : Int) % 64 ≠ 56 := by omega
            simp [this]
          have HZ := Lib.hid hz
          clear hz
          go_wp2_with (at_builtin; (refine wpList_append_any rfl (.tmp 32) (.tmp 33) 26 rfl wo.heap.size 5 i0 (.int .u8 0) 1 1 Tryz.underlying26 hi0 hz0 hz1 hz2 rfl (by decide) _ Q.length (bys Q) rfl (World.ownsRow.alloc HQ.out.2.2.2 _) _ 1 (bys [0]) rfl (Bys.new wr [0] 1 rfl (by decide)) (by unfold maxLen; omega) (by omega) (by simp; have := HQ.out.2.2.1.size; have := HSO.out; omega) ?_); intro v3 W3 hown3 hgrow3; have HBX : Hid (Below wo.heap.size wr W3) := Lib.hid (((Below.refl wo.heap.size wr).alloc (by have := HQ.out.2.2.1.size; have := HSO.out; omega) _).grown hgrow3 (by simp; have := HQ.out.2.2.1.size; have := HSO.out; omega) (fun k e => OwnB.ge HQ.out.2.2.2 e)); have HOX : Hid (OwnB W3 wo.heap.size v3 (Q ++ [0])) := Lib.hid (OwnB.append rfl hown3); clear hown3 hgrow3)
          obtain ⟨A3, c3, rfl⟩ := HOX.out.form
          go_roundw
          case rel => exact ⟨j + 1, Q ++ [0], by have := HZ.out; omega, by rw [List.length_append]; have := HQL.out; simp; omega, Lib.hid ⟨by rw [HQ.out.1, List.append_assoc, List.cons_append, ← List.replicate_succ'], trivial, HQ.out.2.2.1.trans HBX.out, HOX.out⟩⟩
          case measure => simp [lenV]; have := HQL.out; have := HDM.out.2; omega
end Go.Proofs.YtlkgeifmppadmaaGreat
namespace Go.Proofs.YtlkgeifmppadmaaGreat
open Go.RowKit Go.Shelf
attribute [local go_sem] Oper.semAt_some
set_option linter.unusedVariables false
set_option linter.unusedSimpArgs false

theorem mix_8 (a b c d e f g1 h : Int) (kb g o c1 : Nat) (l : List UInt8) (hl : l.length = 64) (hc : 64 ≤ c1) (w : World) (hg : g < w.heap.size) (hx : BysAt w g o l) (hk : Blk w kb 146 (u32s shaK)) :
  Calls Tryz.prog 107 #[.agg #[.int .u32 a, .int .u32 b, .int .u32 c, .int .u32 d, .int .u32 e, .int .u32 f, .int .u32 g1, .int .u32 h], .slice (some ⟨g, o, none⟩) 64 c1, .pointer (some ⟨kb, 0, none⟩)] w fun e1 w' => e1 = .returned (.agg (u32s (mixF shaK [a, b, c, d, e, f, g1, h] l)).toArray) ∧ Below w.heap.size w w' :=
 mix_any [a, b, c, d, e, f, g1, h] shaK rfl shaK_length kb g o c1 l hl hc w hg hx hk
theorem act_at {F : Fence} {n : Nat} {P : Program} {c : Code} {Q : Exit → Act → World → Prop} {a : Act} {w : World} (h : ∀ a0, a0 = a → c.wpIn F n P Q a0 w) : c.wpIn F n P Q a w := h a rfl
theorem ix_0 (y0 y1 y2 y3 y4 y5 y6 y7 : Int) (w : World) : (Instr.index 145 (.agg #[.int .u32 y0, .int .u32 y1, .int .u32 y2, .int .u32 y3, .int .u32 y4, .int .u32 y5, .int .u32 y6, .int .u32 y7]) (.int .i64 0)).run Tryz.prog w = .ok (.int .u32 y0) w := by kernel_rfl
theorem ix_1 (y0 y1 y2 y3 y4 y5 y6 y7 : Int) (w : World) : (Instr.index 145 (.agg #[.int .u32 y0, .int .u32 y1, .int .u32 y2, .int .u32 y3, .int .u32 y4, .int .u32 y5, .int .u32 y6, .int .u32 y7]) (.int .i64 1)).run Tryz.prog w = .ok (.int .u32 y1) w := by kernel_rfl
theorem ix_2 (y0 y1 y2 y3 y4 y5 y6 y7 : Int) (w : World) : (Instr.index 145 (.agg #[.int .u32 y0, .int .u32 y1, .int .u32 y2, .int .u32 y3, .int .u32 y4, .int .u32 y5, .int .u32 y6, .int .u32 y7]) (.int .i64 2)).run Tryz.prog w = .ok (.int .u32 y2) w := by kernel_rfl
theorem ix_3 (y0 y1 y2 y3 y4 y5 y6 y7 : Int) (w : World) : (Instr.index 145 (.agg #[.int .u32 y0, .int .u32 y1, .int .u32 y2, .int .u32 y3, .int .u32 y4, .int .u32 y5, .int .u32 y6, .int .u32 y7]) (.int .i64 3)).run Tryz.prog w = .ok (.int .u32 y3) w := by kernel_rfl
theorem ix_4 (y0 y1 y2 y3 y4 y5 y6 y7 : Int) (w : World) : (Instr.index 145 (.agg #[.int .u32 y0, .int .u32 y1, .int .u32 y2, .int .u32 y3, .int .u32 y4, .int .u32 y5, .int .u32 y6, .int .u32 y7]) (.int .i64 4)).run Tryz.prog w = .ok (.int .u32 y4) w := by kernel_rfl
theorem ix_5 (y0 y1 y2 y3 y4 y5 y6 y7 : Int) (w : World) : (Instr.index 145 (.agg #[.int .u32 y0, .int .u32 y1, .int .u32 y2, .int .u32 y3, .int .u32 y4, .int .u32 y5, .int .u32 y6, .int .u32 y7]) (.int .i64 5)).run Tryz.prog w = .ok (.int .u32 y5) w := by kernel_rfl
theorem ix_6 (y0 y1 y2 y3 y4 y5 y6 y7 : Int) (w : World) : (Instr.index 145 (.agg #[.int .u32 y0, .int .u32 y1, .int .u32 y2, .int .u32 y3, .int .u32 y4, .int .u32 y5, .int .u32 y6, .int .u32 y7]) (.int .i64 6)).run Tryz.prog w = .ok (.int .u32 y6) w := by kernel_rfl
theorem ix_7 (y0 y1 y2 y3 y4 y5 y6 y7 : Int) (w : World) : (Instr.index 145 (.agg #[.int .u32 y0, .int .u32 y1, .int .u32 y2, .int .u32 y3, .int .u32 y4, .int .u32 y5, .int .u32 y6, .int .u32 y7]) (.int .i64 7)).run Tryz.prog w = .ok (.int .u32 y7) w := by kernel_rfl
def preRun (Q : List UInt8) {m : Nat} (pre : List (Fin m)) : List Int := pre.foldl (fun s x => mixF shaK s ((Q.drop (64 * x.val)).take 64)) shaH
theorem preRun_snoc (Q : List UInt8) {m : Nat} (pre : List (Fin m)) (x : Fin m) : preRun Q (pre ++ [x]) = mixF shaK (preRun Q pre) ((Q.drop (64 * x.val)).take 64) := by
 unfold preRun; rw [List.foldl_append]; rfl
theorem preRun_length (Q : List UInt8) {m : Nat} (pre : List (Fin m)) : (preRun Q pre).length = 8 := by
 unfold preRun
 generalize hs : shaH = s0
 have h8 : s0.length = 8 := by rw [← hs]; rfl
 clear hs
 induction pre generalizing s0 with
 | nil => exact h8
 | cons x pre ih => exact ih _ (mixF_length _ _ _ h8)
theorem preRun_fins (Q : List UInt8) (m : Nat) : ∀ k, k ≤ m → preRun Q (fins m k) = shaRun shaH Q k
 | 0, _ => rfl
 | k + 1, h => by rw [fins_succ h, preRun_snoc, preRun_fins Q m k (by omega)]; rfl

set_option maxRecDepth 100000 in
set_option maxHeartbeats 4000000 in
theorem psum_any (v : Value) (l : List UInt8) (hsm : l.length ≤ 1000000000000) (w : World) (hx : Bys w v l) :
  Calls Tryz.prog 98 #[v] w fun e w' => ∃ v', e = .returned v' ∧ OwnB w' w.heap.size v' (sha l) ∧ Below w.heap.size w w' := by
 obtain ⟨i0, hi0, hz0, hz1, hz2⟩ := info_parts info_u8
 obtain ⟨A, c, rfl⟩ := hx.form
 have HX := Lib.hid hx
 clear hx
 refine (callsIn_wide (n := 3)).1 ?_
 have hro : Fence.wide.round = none := rfl
 have hFn : Fence.wide.fn 108 := trivial
 refine callsIn_of_wp_marks Tryz.func98 rfl trivial ?_ hro
 refine wpIn_wide.2 ?_
 simp only [Tryz.ntmps98, List.size_toArray, List.length_cons, List.length_nil, Nat.reduceAdd, Nat.reduceSub, Array.replicate_succ, Array.replicate_zero, List.push_toArray, List.append_toArray, List.nil_append, List.cons_append]
 go_wp2_with fail
 have bel0 := (Below.refl w.heap.size w).alloc (Nat.le_refl _) (.cells (u32s shaH).toArray 145)
 refine calls_at (fun w1 => Below w.heap.size w w1 ∧ Blk w1 w.heap.size 145 (u32s shaH)) ⟨bel0, Blk.new w 145 (u32s shaH)⟩ ?_
 clear bel0
 intro w1 hw1
 refine (keys_any w1).mono ?_
 rintro e w2 ⟨rfl, h2⟩
 have HW := Lib.hid (And.intro (hw1.1.trans (h2.mono hw1.1.size)) (hw1.2.below h2))
 clear hw1 h2
 have HB4 : Hid (Blk (w2.alloc (.cells (u32s (List.replicate 64 0)).toArray 146)) w2.heap.size 146 (u32s (List.replicate 64 0))) := Lib.hid (Blk.new w2 _ _)
 go_wp2_with (refine wpList_store_row rfl 146 (.tmp 4) (.tmp 12) rfl w2.heap.size (u32s shaK).toArray rfl rfl 146 _ HB4.out (size_row64 shaK shaK_length) rfl (u32s_one shaK) ?_)
 refine calls_at (fun w3 => Below w.heap.size w w3 ∧ Blk w3 w.heap.size 145 (u32s shaH) ∧ Blk w3 w2.heap.size 146 (u32s shaK) ∧ w.heap.size < w2.heap.size) ⟨(HW.out.1.alloc HW.out.1.size _).trans ((chg_setRow _ w2.heap.size _).below (by simp; have := HW.out.1.size; omega) (fun k hk => by have := HW.out.1.size; omega)), (HW.out.2.alloc _).chg (chg_setRow _ w2.heap.size _) (by have := HW.out.2.lt; omega), blk_setRow HB4.out (u32s shaK), HW.out.2.lt⟩ ?_
 intro w3 hw3
 have HW3 := Lib.hid hw3
 have HWB : Hid (w.heap.size < w2.heap.size) := Lib.hid hw3.2.2.2
 clear hw3 HW HB4
 generalize w2.heap.size = B4 at *
 refine (clone_any _ l hsm w3 (HX.out.below HW3.out.1)).mono ?_
 rintro e w4 ⟨v4, rfl, h4, h5⟩
 obtain ⟨A4, c4, rfl⟩ := h4.form
 have HC := Lib.hid (And.intro h4 h5)
 clear h4 h5
 have HS4 : Hid (w3.heap.size ≤ w4.heap.size) := Lib.hid HC.out.2.size
 go_wp2_with (at_builtin; (refine wpList_append_any rfl (.tmp 14) (.tmp 15) 26 rfl w3.heap.size 5 i0 (.int .u8 0) 1 1 Tryz.underlying26 hi0 hz0 hz1 hz2 rfl (by decide) _ l.length (bys l) rfl (World.ownsRow.alloc HC.out.1 _) _ 1 (bys [128]) rfl (Bys.new w4 [128] 1 rfl (by decide)) (by unfold maxLen; omega) (by omega) (by simp; have := HS4.out; omega) ?_); intro v5 W5 hown5 hgrow5; have HB5 : Hid (Below w3.heap.size w3 W5) := Lib.hid (HC.out.2.trans (((Below.refl w3.heap.size w4).alloc HS4.out _).grown hgrow5 (by simp; have := HS4.out; omega) (fun k e => HC.out.1.ge e))); have HO5 : Hid (OwnB W5 w3.heap.size v5 (l ++ [128])) := Lib.hid (OwnB.append rfl hown5); clear hown5 hgrow5)
 have HZN : Hid (zn l.length < 64) := Lib.hid (by unfold zn; omega)
 go_loopw [5] (fun v5 wr => ∃ (j : Nat) (Q : List UInt8), j ≤ zn l.length ∧ Q.length = l.length + 1 + j ∧ Hid (Q = l ++ 128 :: List.replicate j 0 ∧ Below w3.heap.size w3 wr ∧ OwnB wr w3.heap.size v5 Q)) (fun v _ => l.length + 200 - lenV v)
 case atStart => exact ⟨0, l ++ [128], Nat.zero_le _, by simp, Lib.hid ⟨rfl, HB5.out, HO5.out⟩⟩
 case round =>
  obtain ⟨j, Q, hj, hQl, HQ⟩ := hrel
  obtain ⟨A6, c6, rfl⟩ := HQ.out.2.2.form
  have hQb : Q.length ≤ 1000000000200 := by have := HZN.out; omega
  have HQL := Lib.hid hQl
  clear hQl HB5 HO5 HC
  by_cases hz : j = zn l.length
  ·have hb : ((((Q.length : Nat) : Int) % 64) != 56) = false := by
    have h1 := zn_at l.length
    have h2 := HQL.out
    have : ((Q.length : Nat) : Int) % 64 = 56 := by omega
    simp [this]
   have HZ := Lib.hid hz
   clear hz
   go_wp2
   have HQ3 := Lib.hid (show Q = l ++ 128 :: List.replicate (zn l.length) 0 ∧ Below w3.heap.size w3 wr ∧ OwnB wr w3.heap.size (.slice A6 Q.length c6) Q from ⟨by rw [HQ.out.1, HZ.out], HQ.out.2.1, HQ.out.2.2⟩)
   have HP : Hid (Q.length ≤ 1000000000200) := Lib.hid hQb
   clear HQ hb hQb HQL
   generalize hQ0 : Q = Q0 at *
   clear hQ0
   go_loopw [5, 6] (fun v6 v7 wr => ∃ (j : Nat) (Q : List UInt8) (i : Int), v7 = .int .i64 i ∧ (-1 ≤ i ∧ i ≤ 7) ∧ Q.length ≤ 1000000000200 + j ∧ Hid (Q = Q0 ++ lens l.length j ∧ i = 7 - (j : Int) ∧ Below w3.heap.size w3 wr ∧ OwnB wr w3.heap.size v6 Q)) (fun _ v _ => (intOf v + 1).toNat)
   case atStart => exact ⟨0, Q0, 7, rfl, by decide, by have := HP.out; omega, Lib.hid ⟨by simp [lens], rfl, HQ3.out.2.1, HQ3.out.2.2⟩⟩
   case round =>
    obtain ⟨j, Q, i, rfl, hi, hQl, HQ⟩ := hrel
    obtain ⟨A6, c6, rfl⟩ := HQ.out.2.2.2.form
    by_cases hi1 : i = -1
    ·obtain rfl : j = 8 := by have := HQ.out.2.1; omega
     subst hi1
     have HFQ : Hid (full l = Q) := Lib.hid (by rw [HQ.out.1, HQ3.out.1]; rfl)
     have HOQ := Lib.hid (And.intro HQ.out.2.2.1 HQ.out.2.2.2)
     clear HQ HQ3 hi
     go_wp2_with fail
     refine (chunk_any A6 Q.length c6 wr).mono ?_
     rintro e W6 ⟨rfl, hW6⟩
     have hb6 := blk2 wr [.slice A6 Q.length c6] [.int .i64 64] 26 3 W6 hW6
     clear hW6
     obtain ⟨m, hm⟩ : ∃ m, Q.length = 64 * m := ⟨Q.length / 64, by have := full_cut l; rw [HFQ.out] at this; omega⟩
     have hm0 : 0 < Q.length := by have := full_length l; rw [HFQ.out] at this; omega
     obtain ⟨g, rfl, hge, hc1, hc2⟩ : ∃ g, A6 = some ⟨g, 0, none⟩ ∧ w3.heap.size ≤ g ∧ Q.length ≤ c6 ∧ c6 ≤ maxLen := by
      rcases HOQ.out.2.2 with ⟨_, h0⟩ | ⟨g, cap, cur, e, h1, h2, h3, h4, -⟩
      ·omega
      ·injection e with e1 e2 e3
       subst e3
       exact ⟨g, e1, h1, h3, h4⟩
     have HQB : Hid (Bys wr (.slice (some ⟨g, 0, none⟩) Q.length c6) Q) := Lib.hid HOQ.out.2.bys
     have HB6 := Lib.hid hb6
     have cs : W6.cell? ⟨wr.heap.size, 0, none⟩ = some (.slice (some ⟨g, 0, none⟩) (64 * m) c6) := by have := hb6.2.1.cell 0 _ rfl; rw [hm] at this; exact this
     have cn : W6.cell? ⟨wr.heap.size + 1, 0, none⟩ = some (.int .i64 64) := hb6.2.2.cell 0 _ rfl
     have hsz6 : wr.heap.size + 1 < W6.heap.size := hb6.2.2.lt
     have hB0 : w.heap.size < wr.heap.size := Nat.lt_of_lt_of_le HW3.out.2.1.lt HOQ.out.1.size
     have HBl : Hid (Below w.heap.size w W6) := Lib.hid ((HW3.out.1.trans (HOQ.out.1.mono HW3.out.1.size)).trans (hb6.1.mono (Nat.le_of_lt hB0)))
     have HH6 : Hid (Blk W6 w.heap.size 145 (u32s shaH) ∧ Blk W6 B4 146 (u32s shaK) ∧ Bys W6 (.slice (some ⟨g, 0, none⟩) Q.length c6) Q) := Lib.hid ⟨(HW3.out.2.1.below HOQ.out.1).below hb6.1, (HW3.out.2.2.1.below HOQ.out.1).below hb6.1, HQB.out.below hb6.1⟩
     clear hb6
     have hB4 : B4 < W6.heap.size := HH6.out.2.1.lt
     have hgs : g < W6.heap.size := HH6.out.2.2.lt hm0 g rfl
     have hwg : w.heap.size ≠ g := by have := HW3.out.2.1.lt; omega
     have HM := Lib.hid hm
     clear hm
     go_wp2_with fail
     refine (wpIn_wide (n := 3)).1 ?_
     have hm1 : 64 * m ≤ c6 := by have := HM.out; omega
     have hm2 : 64 * m < 100000000000000 := by have := HM.out; omega
     have hOwn : OwnFrom W6.heap.size (fun (pre : List (Fin m)) W => Blk W w.heap.size 145 (u32s (preRun Q pre)) ∧ Blk W B4 146 (u32s shaK) ∧ Bys W (.slice (some ⟨g, 0, none⟩) Q.length c6) Q ∧ Below w.heap.size w W ∧ W6.heap.size ≤ W.heap.size) := by
      intro s X Y row hs hg hr
      refine ⟨hs.1.grown hg (fun e => ?_), hs.2.1.grown hg (fun e => ?_), Sho.grown hs.2.2.1 hg (fun q hq e => ?_), hs.2.2.2.1.grown hg hs.2.2.2.1.size (fun k e => ?_), Nat.le_trans hs.2.2.2.2 hg.size⟩
      ·have := (hr _ e.symm).1
       omega
      ·have := (hr _ e.symm).1
       omega
      ·have h1 := (hr _ e.symm).1
       have h2 : g = q := by simpa [Value.ownBlock] using hq
       omega
      ·have := (hr _ e).1
       omega
     refine act_at ?_
     intro a0 ha0
     refine wpIn_rangeFunc_ownH hro (by decide) (gf := 108) (lb := #[.pointer (some ⟨wr.heap.size, 0, none⟩), .pointer (some ⟨wr.heap.size + 1, 0, none⟩)]) (by rw [ha0]; rfl) hFn (enters_of Tryz.func108 (by kernel_rfl) rfl)
      (chunk_stops Fence.wide (3 - 1) hFn hro (by decide) wr.heap.size (wr.heap.size + 1) W6.heap.size w.heap.size g m c6 hm1 hc2 hm2 (by omega) (by omega) (by omega) (by omega) W6 (Nat.le_refl _) cs cn) (fun h k => BelX.trans h k) (belX_b (Nat.le_refl _)) (Below.refl _ _) (fun _ => rfl)
      (fun pre W => Blk W w.heap.size 145 (u32s (preRun Q pre)) ∧ Blk W B4 146 (u32s shaK) ∧ Bys W (.slice (some ⟨g, 0, none⟩) Q.length c6) Q ∧ Below w.heap.size w W ∧ W6.heap.size ≤ W.heap.size)
      (fun _ _ _ => False)
      hOwn
      (fun _ _ _ _ _ hs _ _ => hs)
      ⟨HH6.out.1, HH6.out.2.1, HH6.out.2.2, HBl.out, Nat.le_refl _⟩
      (fun x a' W => a' = { tmps := (a0.tmps.setIfInBounds 41 (.slice (some ⟨g, 64 * x.val, none⟩) 64 64)).setIfInBounds 7 (.slice (some ⟨g, 64 * x.val, none⟩) 64 64), defers := [] })
      (fun x a' s X Y row hs hg hr => hs)
      ?assign ?body ?done ?stop
     case assign =>
      rintro lp pre x W K hI hK
      subst ha0
      gi_wp2
      exact hK _ _ ((KeepsOthers.refl _).from _) (BelX.refl _ _ _) hI rfl
     case body =>
      rintro lp pre x a' W hlp hr hI rfl hlt
      subst ha0
      simp only [sa, sb, sc]
      have h8 := preRun_length Q pre
      have HR : Hid (preRun Q (pre ++ [x]) = mixF shaK (preRun Q pre) ((Q.drop (64 * x.val)).take 64)) := Lib.hid (preRun_snoc Q pre x)
      obtain ⟨hH, hK4, hQQ, hBw, hW6⟩ := hI
      generalize preRun Q pre = S0 at *
      obtain ⟨y0, y1, y2, y3, y4, y5, y6, y7, rfl⟩ := eight h8
      clear h8
      have q0 := u32_get hH 0 (by simp)
      have q1 := u32_get hH 1 (by simp)
      have q2 := u32_get hH 2 (by simp)
      have q3 := u32_get hH 3 (by simp)
      have q4 := u32_get hH 4 (by simp)
      have q5 := u32_get hH 5 (by simp)
      have q6 := u32_get hH 6 (by simp)
      have q7 := u32_get hH 7 (by simp)
      simp only [List.getD_cons_zero, List.getD_cons_succ] at q0 q1 q2 q3 q4 q5 q6 q7
      have hx64 : 64 * x.val + 64 ≤ Q.length := by have := HM.out; have := x.isLt; omega
      have hlen : ((Q.drop (64 * x.val)).take 64).length = 64 := by rw [List.length_take, List.length_drop]; omega
      have HBA : Hid (BysAt W g (64 * x.val) ((Q.drop (64 * x.val)).take 64)) := Lib.hid (by
       intro k hk
       rw [hlen] at hk
       obtain ⟨g', o', e1, _, _, _, _, h6⟩ := Bys.place hQQ hm0
       injection e1 with e1
       injection e1 with e1 e2
       subst e1 e2
       have := h6 (64 * x.val + k) (by omega)
       rw [List.getElem_take, List.getElem_drop]
       rw [Nat.zero_add] at this
       exact this)
      have hgW : g < W.heap.size := hQQ.lt hm0 g rfl
      have HI := Lib.hid (And.intro hH (And.intro hK4 (And.intro hQQ hBw)))
      clear hH hK4 hQQ hBw hr
      have HM8 := Lib.hid (mixF_length shaK [y0, y1, y2, y3, y4, y5, y6, y7] ((Q.drop (64 * x.val)).take 64) rfl)
      have HLL := Lib.hid hlen
      clear hlen
      generalize (Q.drop (64 * x.val)).take 64 = X at *
      have HMX := Lib.hid (mix_8 y0 y1 y2 y3 y4 y5 y6 y7 B4 g (64 * x.val) 64 X HLL.out (by decide) W hgW HBA.out HI.out.2.1)
      generalize mixF shaK [y0, y1, y2, y3, y4, y5, y6, y7] X = M at *
      obtain ⟨m0, m1, m2, m3, m4, m5, m6, m7, rfl⟩ := eight HM8.out
      gi_wp2
      refine ⟨trivial, (CallsIn.inRound lp (callsIn_wide.2 HMX.out)).mono ?_⟩
      rintro e1 W4 ⟨rfl, h4⟩
      have HW4 := Lib.hid (And.intro h4 (HI.out.1.below h4))
      clear h4 q0 q1 q2 q3 q4 q5 q6 q7
      simp only [u32s, List.map_cons, List.map_nil]
      have f4 : ∀ k, W4.frozen? ⟨w.heap.size, k, none⟩ = false := fun k => HW4.out.2.free k
      have z0 := u32_get HW4.out.2 0 (by simp)
      have z1 := u32_get HW4.out.2 1 (by simp)
      have z2 := u32_get HW4.out.2 2 (by simp)
      have z3 := u32_get HW4.out.2 3 (by simp)
      have z4 := u32_get HW4.out.2 4 (by simp)
      have z5 := u32_get HW4.out.2 5 (by simp)
      have z6 := u32_get HW4.out.2 6 (by simp)
      have z7 := u32_get HW4.out.2 7 (by simp)
      simp only [List.getD_cons_zero, List.getD_cons_succ] at z0 z1 z2 z3 z4 z5 z6 z7
      gi_wp2
      have hch := chg_set8 W4 w.heap.size (.int .u32 m0) (.int .u32 m1) (.int .u32 m2) (.int .u32 m3) (.int .u32 m4) (.int .u32 m5) (.int .u32 m6) (.int .u32 m7)
      have hset := (((((((HW4.out.2.set 0 (.int .u32 m0) (by simp [u32s])).set 1 (.int .u32 m1) (by simp [u32s])).set 2 (.int .u32 m2) (by simp [u32s])).set 3 (.int .u32 m3) (by simp [u32s])).set 4 (.int .u32 m4) (by simp [u32s])).set 5 (.int .u32 m5) (by simp [u32s])).set 6 (.int .u32 m6) (by simp [u32s])).set 7 (.int .u32 m7) (by simp [u32s])
      have hwW : w.heap.size < W.heap.size := HI.out.1.lt
      have hB4W : B4 < W.heap.size := HI.out.2.1.lt
      have hall : Chg W _ (fun k => k = w.heap.size) := (Chg.of_below (S := fun k => k = w.heap.size) HW4.out.1).trans hch (fun _ _ h => h)
      refine ⟨⟨hall.size, fun k o hk ho hc => ?_⟩, ⟨hall.os, hall.tape, hall.output, hall.size, fun k hk hne => ?_⟩, ?_, ?_, ?_, ?_, Nat.le_trans hW6 hall.size⟩
      ·have hkW := (Array.getElem?_eq_some_iff.1 ho).1
       exact (hall.block k hkW (by omega)).trans ho
      ·exact hall.block k (by omega) (fun e => hne e)
      ·rw [HR.out]; exact hset
      ·exact HI.out.2.1.chg hall (by have := HWB.out; omega)
      ·exact Sho.chg HI.out.2.2.1 hall (fun q hq e => by
        have h2 : g = q := by simpa [Value.ownBlock] using hq
        omega)
      ·exact HI.out.2.2.2.trans (hall.below (Nat.le_of_lt hwW) (fun k hk => by omega))
     case done =>
      rintro D ys W hD rfl ⟨hH, -, -, hBw, hW6⟩ hK
      subst ha0
      have HS : Hid (preRun Q (fins m m) = shaRun shaH (full l) ((full l).length / 64)) := Lib.hid (by
       rw [preRun_fins Q m m (Nat.le_refl _), HFQ.out, HM.out, Nat.mul_div_cancel_left _ (by decide)])
      have h8 := preRun_length Q (fins m m)
      generalize preRun Q (fins m m) = S at *
      have HSH : Hid (sha l = outs S 8) := Lib.hid (by rw [HS.out]; rfl)
      clear HS
      obtain ⟨y0, y1, y2, y3, y4, y5, y6, y7, rfl⟩ := eight h8
      clear h8
      have q0 := u32_get hH 0 (by simp)
      have q1 := u32_get hH 1 (by simp)
      have q2 := u32_get hH 2 (by simp)
      have q3 := u32_get hH 3 (by simp)
      have q4 := u32_get hH 4 (by simp)
      have q5 := u32_get hH 5 (by simp)
      have q6 := u32_get hH 6 (by simp)
      have q7 := u32_get hH 7 (by simp)
      simp only [List.getD_cons_zero, List.getD_cons_succ] at q0 q1 q2 q3 q4 q5 q6 q7
      have HD := Lib.hid (And.intro hH (And.intro hBw (And.intro hW6 hK)))
      clear hH hBw hW6 hK
      obtain ⟨W8, hmk, ho8, hg8⟩ := Go.run_makeSlice_owned (P := Tryz.prog) W W.heap.size 26 5 i0 (.int .u8 0) 1 Tryz.underlying26 hi0 hz0 hz1 .i64 .i64 32 (by decide) (by rw [hz2]; decide) (by decide) (Nat.le_refl _)
      have hmk' : (Instr.makeSlice 26 (.int .i64 0) (.int .i64 32)).run Tryz.prog W = .ok (.slice (some ⟨W.heap.size, 0, none⟩) 0 32) W8 := hmk
      have hb8 : Below W.heap.size W W8 := (Below.refl W.heap.size W).grown hg8 (Nat.le_refl _) (fun k e => by cases e)
      have hbl := HD.out.1.below hb8
      have r0 := u32_get hbl 0 (by simp)
      have r1 := u32_get hbl 1 (by simp)
      have r2 := u32_get hbl 2 (by simp)
      have r3 := u32_get hbl 3 (by simp)
      have r4 := u32_get hbl 4 (by simp)
      have r5 := u32_get hbl 5 (by simp)
      have r6 := u32_get hbl 6 (by simp)
      have r7 := u32_get hbl 7 (by simp)
      simp only [List.getD_cons_zero, List.getD_cons_succ] at r0 r1 r2 r3 r4 r5 r6 r7
      have H8 := Lib.hid (And.intro hb8 (show OwnB W8 W.heap.size (.slice (some ⟨W.heap.size, 0, none⟩) 0 32) [] from ho8))
      obtain ⟨OS, hOS⟩ : ∃ OS : Nat → List UInt8, OS = outs [y0, y1, y2, y3, y4, y5, y6, y7] := ⟨_, rfl⟩
      have HOS : Hid (OS 0 = [] ∧ (∀ j, OS (j + 1) = OS j ++ be4 ([y0, y1, y2, y3, y4, y5, y6, y7].getD j 0)) ∧ (∀ j, (OS j).length = 4 * j)) := Lib.hid (by rw [hOS]; exact ⟨rfl, fun _ => rfl, fun j => outs_length _ _⟩)
      have HSO : Hid (sha l = OS 8) := Lib.hid (by rw [HSH.out, hOS])
      clear hOS HSH hmk ho8 hg8 hb8 hbl q0 q1 q2 q3 q4 q5 q6 q7
      go_wp2
      clear hmk' r0 r1 r2 r3 r4 r5 r6 r7
      go_loopw [8, 47] (fun v8 v47 wr => ∃ (j : Nat), v47 = .int .i64 j ∧ j ≤ 8 ∧ Hid (Below W.heap.size W wr ∧ OwnB wr W.heap.size v8 (OS j))) (fun _ v _ => 8 - (intOf v).toNat)
      case atStart => exact ⟨0, rfl, by decide, Lib.hid ⟨H8.out.1, by rw [HOS.out.1]; exact H8.out.2⟩⟩
      case round =>
       obtain ⟨j, rfl, hj, HJ⟩ := hrel
       obtain rfl | rfl | rfl | rfl | rfl | rfl | rfl | rfl | rfl : j = 0 ∨ j = 1 ∨ j = 2 ∨ j = 3 ∨ j = 4 ∨ j = 5 ∨ j = 6 ∨ j = 7 ∨ j = 8 := by omega
       ·obtain ⟨A8, c8, rfl⟩ := HJ.out.2.form
        have HOj : Hid (OS 1 = OS 0 ++ be4 y0) := Lib.hid (HOS.out.2.1 0)
        have hol : (OS 0).length ≤ 32 := by rw [HOS.out.2.2 0]; decide
        generalize OS 0 = O at *
        rw [show ((0 : Nat) : Int) = 0 from rfl]
        have hix := ix_0 y0 y1 y2 y3 y4 y5 y6 y7 wr
        have e1 : y0 / 16777216 % 256 = (((ub (y0 / 16777216)).toNat : Nat) : Int) := (ub_val _).symm
        have e2 : y0 / 65536 % 256 = (((ub (y0 / 65536)).toNat : Nat) : Int) := (ub_val _).symm
        have e3 : y0 / 256 % 256 = (((ub (y0 / 256)).toNat : Nat) : Int) := (ub_val _).symm
        have e4 : y0 % 256 = (((ub y0).toNat : Nat) : Int) := (ub_val _).symm
        have HBE : Hid (be4 y0 = [ub (y0 / 16777216), ub (y0 / 65536), ub (y0 / 256), ub y0]) := Lib.hid rfl
        generalize ub (y0 / 16777216) = b1 at *
        generalize ub (y0 / 65536) = b2 at *
        generalize ub (y0 / 256) = b3 at *
        generalize ub y0 = b4 at *
        go_wp2_with (at_builtin; (refine wpList_append_any rfl (.tmp 50) (.tmp 62) 26 rfl W.heap.size 5 i0 (.int .u8 0) 1 1 Tryz.underlying26 hi0 hz0 hz1 hz2 rfl (by decide) _ O.length (bys O) rfl (World.ownsRow.alloc HJ.out.2 _) _ 4 (bys [b1, b2, b3, b4]) rfl (Bys.new _ [b1, b2, b3, b4] 4 rfl (by decide)) (by unfold maxLen; omega) (by omega) (by simp; have := HJ.out.1.size; omega) ?_); intro v2 W9 hown2 hgrow2; have HB9 : Hid (Below W.heap.size W W9) := Lib.hid (HJ.out.1.trans (((Below.refl W.heap.size wr).alloc HJ.out.1.size _).grown hgrow2 (by simp; have := HJ.out.1.size; omega) (fun k e => OwnB.ge HJ.out.2 e))); have HO9 : Hid (OwnB W9 W.heap.size v2 (O ++ [b1, b2, b3, b4])) := Lib.hid (OwnB.append rfl hown2); clear hown2 hgrow2)
        go_roundw
        case rel => exact ⟨0 + 1, by go_num, by omega, Lib.hid ⟨HB9.out, by show OwnB _ _ _ (OS 1); rw [HOj.out, HBE.out]; exact HO9.out⟩⟩
        case measure => simp [intOf]
       ·obtain ⟨A8, c8, rfl⟩ := HJ.out.2.form
        have HOj : Hid (OS 2 = OS 1 ++ be4 y1) := Lib.hid (HOS.out.2.1 1)
        have hol : (OS 1).length ≤ 32 := by rw [HOS.out.2.2 1]; decide
        generalize OS 1 = O at *
        rw [show ((1 : Nat) : Int) = 1 from rfl]
        have hix := ix_1 y0 y1 y2 y3 y4 y5 y6 y7 wr
        have e1 : y1 / 16777216 % 256 = (((ub (y1 / 16777216)).toNat : Nat) : Int) := (ub_val _).symm
        have e2 : y1 / 65536 % 256 = (((ub (y1 / 65536)).toNat : Nat) : Int) := (ub_val _).symm
        have e3 : y1 / 256 % 256 = (((ub (y1 / 256)).toNat : Nat) : Int) := (ub_val _).symm
        have e4 : y1 % 256 = (((ub y1).toNat : Nat) : Int) := (ub_val _).symm
        have HBE : Hid (be4 y1 = [ub (y1 / 16777216), ub (y1 / 65536), ub (y1 / 256), ub y1]) := Lib.hid rfl
        generalize ub (y1 / 16777216) = b1 at *
        generalize ub (y1 / 65536) = b2 at *
        generalize ub (y1 / 256) = b3 at *
        generalize ub y1 = b4 at *
        go_wp2_with (at_builtin; (refine wpList_append_any rfl (.tmp 50) (.tmp 62) 26 rfl W.heap.size 5 i0 (.int .u8 0) 1 1 Tryz.underlying26 hi0 hz0 hz1 hz2 rfl (by decide) _ O.length (bys O) rfl (World.ownsRow.alloc HJ.out.2 _) _ 4 (bys [b1, b2, b3, b4]) rfl (Bys.new _ [b1, b2, b3, b4] 4 rfl (by decide)) (by unfold maxLen; omega) (by omega) (by simp; have := HJ.out.1.size; omega) ?_); intro v2 W9 hown2 hgrow2; have HB9 : Hid (Below W.heap.size W W9) := Lib.hid (HJ.out.1.trans (((Below.refl W.heap.size wr).alloc HJ.out.1.size _).grown hgrow2 (by simp; have := HJ.out.1.size; omega) (fun k e => OwnB.ge HJ.out.2 e))); have HO9 : Hid (OwnB W9 W.heap.size v2 (O ++ [b1, b2, b3, b4])) := Lib.hid (OwnB.append rfl hown2); clear hown2 hgrow2)
        go_roundw
        case rel => exact ⟨1 + 1, by go_num, by omega, Lib.hid ⟨HB9.out, by show OwnB _ _ _ (OS 2); rw [HOj.out, HBE.out]; exact HO9.out⟩⟩
        case measure => simp [intOf]
       ·obtain ⟨A8, c8, rfl⟩ := HJ.out.2.form
        have HOj : Hid (OS 3 = OS 2 ++ be4 y2) := Lib.hid (HOS.out.2.1 2)
        have hol : (OS 2).length ≤ 32 := by rw [HOS.out.2.2 2]; decide
        generalize OS 2 = O at *
        rw [show ((2 : Nat) : Int) = 2 from rfl]
        have hix := ix_2 y0 y1 y2 y3 y4 y5 y6 y7 wr
        have e1 : y2 / 16777216 % 256 = (((ub (y2 / 16777216)).toNat : Nat) : Int) := (ub_val _).symm
        have e2 : y2 / 65536 % 256 = (((ub (y2 / 65536)).toNat : Nat) : Int) := (ub_val _).symm
        have e3 : y2 / 256 % 256 = (((ub (y2 / 256)).toNat : Nat) : Int) := (ub_val _).symm
        have e4 : y2 % 256 = (((ub y2).toNat : Nat) : Int) := (ub_val _).symm
        have HBE : Hid (be4 y2 = [ub (y2 / 16777216), ub (y2 / 65536), ub (y2 / 256), ub y2]) := Lib.hid rfl
        generalize ub (y2 / 16777216) = b1 at *
        generalize ub (y2 / 65536) = b2 at *
        generalize ub (y2 / 256) = b3 at *
        generalize ub y2 = b4 at *
        go_wp2_with (at_builtin; (refine wpList_append_any rfl (.tmp 50) (.tmp 62) 26 rfl W.heap.size 5 i0 (.int .u8 0) 1 1 Tryz.underlying26 hi0 hz0 hz1 hz2 rfl (by decide) _ O.length (bys O) rfl (World.ownsRow.alloc HJ.out.2 _) _ 4 (bys [b1, b2, b3, b4]) rfl (Bys.new _ [b1, b2, b3, b4] 4 rfl (by decide)) (by unfold maxLen; omega) (by omega) (by simp; have := HJ.out.1.size; omega) ?_); intro v2 W9 hown2 hgrow2; have HB9 : Hid (Below W.heap.size W W9) := Lib.hid (HJ.out.1.trans (((Below.refl W.heap.size wr).alloc HJ.out.1.size _).grown hgrow2 (by simp; have := HJ.out.1.size; omega) (fun k e => OwnB.ge HJ.out.2 e))); have HO9 : Hid (OwnB W9 W.heap.size v2 (O ++ [b1, b2, b3, b4])) := Lib.hid (OwnB.append rfl hown2); clear hown2 hgrow2)
        go_roundw
        case rel => exact ⟨2 + 1, by go_num, by omega, Lib.hid ⟨HB9.out, by show OwnB _ _ _ (OS 3); rw [HOj.out, HBE.out]; exact HO9.out⟩⟩
        case measure => simp [intOf]
       ·obtain ⟨A8, c8, rfl⟩ := HJ.out.2.form
        have HOj : Hid (OS 4 = OS 3 ++ be4 y3) := Lib.hid (HOS.out.2.1 3)
        have hol : (OS 3).length ≤ 32 := by rw [HOS.out.2.2 3]; decide
        generalize OS 3 = O at *
        rw [show ((3 : Nat) : Int) = 3 from rfl]
        have hix := ix_3 y0 y1 y2 y3 y4 y5 y6 y7 wr
        have e1 : y3 / 16777216 % 256 = (((ub (y3 / 16777216)).toNat : Nat) : Int) := (ub_val _).symm
        have e2 : y3 / 65536 % 256 = (((ub (y3 / 65536)).toNat : Nat) : Int) := (ub_val _).symm
        have e3 : y3 / 256 % 256 = (((ub (y3 / 256)).toNat : Nat) : Int) := (ub_val _).symm
        have e4 : y3 % 256 = (((ub y3).toNat : Nat) : Int) := (ub_val _).symm
        have HBE : Hid (be4 y3 = [ub (y3 / 16777216), ub (y3 / 65536), ub (y3 / 256), ub y3]) := Lib.hid rfl
        generalize ub (y3 / 16777216) = b1 at *
        generalize ub (y3 / 65536) = b2 at *
        generalize ub (y3 / 256) = b3 at *
        generalize ub y3 = b4 at *
        go_wp2_with (at_builtin; (refine wpList_append_any rfl (.tmp 50) (.tmp 62) 26 rfl W.heap.size 5 i0 (.int .u8 0) 1 1 Tryz.underlying26 hi0 hz0 hz1 hz2 rfl (by decide) _ O.length (bys O) rfl (World.ownsRow.alloc HJ.out.2 _) _ 4 (bys [b1, b2, b3, b4]) rfl (Bys.new _ [b1, b2, b3, b4] 4 rfl (by decide)) (by unfold maxLen; omega) (by omega) (by simp; have := HJ.out.1.size; omega) ?_); intro v2 W9 hown2 hgrow2; have HB9 : Hid (Below W.heap.size W W9) := Lib.hid (HJ.out.1.trans (((Below.refl W.heap.size wr).alloc HJ.out.1.size _).grown hgrow2 (by simp; have := HJ.out.1.size; omega) (fun k e => OwnB.ge HJ.out.2 e))); have HO9 : Hid (OwnB W9 W.heap.size v2 (O ++ [b1, b2, b3, b4])) := Lib.hid (OwnB.append rfl hown2); clear hown2 hgrow2)
        go_roundw
        case rel => exact ⟨3 + 1, by go_num, by omega, Lib.hid ⟨HB9.out, by show OwnB _ _ _ (OS 4); rw [HOj.out, HBE.out]; exact HO9.out⟩⟩
        case measure => simp [intOf]
       ·obtain ⟨A8, c8, rfl⟩ := HJ.out.2.form
        have HOj : Hid (OS 5 = OS 4 ++ be4 y4) := Lib.hid (HOS.out.2.1 4)
        have hol : (OS 4).length ≤ 32 := by rw [HOS.out.2.2 4]; decide
        generalize OS 4 = O at *
        rw [show ((4 : Nat) : Int) = 4 from rfl]
        have hix := ix_4 y0 y1 y2 y3 y4 y5 y6 y7 wr
        have e1 : y4 / 16777216 % 256 = (((ub (y4 / 16777216)).toNat : Nat) : Int) := (ub_val _).symm
        have e2 : y4 / 65536 % 256 = (((ub (y4 / 65536)).toNat : Nat) : Int) := (ub_val _).symm
        have e3 : y4 / 256 % 256 = (((ub (y4 / 256)).toNat : Nat) : Int) := (ub_val _).symm
        have e4 : y4 % 256 = (((ub y4).toNat : Nat) : Int) := (ub_val _).symm
        have HBE : Hid (be4 y4 = [ub (y4 / 16777216), ub (y4 / 65536), ub (y4 / 256), ub y4]) := Lib.hid rfl
        generalize ub (y4 / 16777216) = b1 at *
        generalize ub (y4 / 65536) = b2 at *
        generalize ub (y4 / 256) = b3 at *
        generalize ub y4 = b4 at *
        go_wp2_with (at_builtin; (refine wpList_append_any rfl (.tmp 50) (.tmp 62) 26 rfl W.heap.size 5 i0 (.int .u8 0) 1 1 Tryz.underlying26 hi0 hz0 hz1 hz2 rfl (by decide) _ O.length (bys O) rfl (World.ownsRow.alloc HJ.out.2 _) _ 4 (bys [b1, b2, b3, b4]) rfl (Bys.new _ [b1, b2, b3, b4] 4 rfl (by decide)) (by unfold maxLen; omega) (by omega) (by simp; have := HJ.out.1.size; omega) ?_); intro v2 W9 hown2 hgrow2; have HB9 : Hid (Below W.heap.size W W9) := Lib.hid (HJ.out.1.trans (((Below.refl W.heap.size wr).alloc HJ.out.1.size _).grown hgrow2 (by simp; have := HJ.out.1.size; omega) (fun k e => OwnB.ge HJ.out.2 e))); have HO9 : Hid (OwnB W9 W.heap.size v2 (O ++ [b1, b2, b3, b4])) := Lib.hid (OwnB.append rfl hown2); clear hown2 hgrow2)
        go_roundw
        case rel => exact ⟨4 + 1, by go_num, by omega, Lib.hid ⟨HB9.out, by show OwnB _ _ _ (OS 5); rw [HOj.out, HBE.out]; exact HO9.out⟩⟩
        case measure => simp [intOf]
       ·obtain ⟨A8, c8, rfl⟩ := HJ.out.2.form
        have HOj : Hid (OS 6 = OS 5 ++ be4 y5) := Lib.hid (HOS.out.2.1 5)
        have hol : (OS 5).length ≤ 32 := by rw [HOS.out.2.2 5]; decide
        generalize OS 5 = O at *
        rw [show ((5 : Nat) : Int) = 5 from rfl]
        have hix := ix_5 y0 y1 y2 y3 y4 y5 y6 y7 wr
        have e1 : y5 / 16777216 % 256 = (((ub (y5 / 16777216)).toNat : Nat) : Int) := (ub_val _).symm
        have e2 : y5 / 65536 % 256 = (((ub (y5 / 65536)).toNat : Nat) : Int) := (ub_val _).symm
        have e3 : y5 / 256 % 256 = (((ub (y5 / 256)).toNat : Nat) : Int) := (ub_val _).symm
        have e4 : y5 % 256 = (((ub y5).toNat : Nat) : Int) := (ub_val _).symm
        have HBE : Hid (be4 y5 = [ub (y5 / 16777216), ub (y5 / 65536), ub (y5 / 256), ub y5]) := Lib.hid rfl
        generalize ub (y5 / 16777216) = b1 at *
        generalize ub (y5 / 65536) = b2 at *
        generalize ub (y5 / 256) = b3 at *
        generalize ub y5 = b4 at *
        go_wp2_with (at_builtin; (refine wpList_append_any rfl (.tmp 50) (.tmp 62) 26 rfl W.heap.size 5 i0 (.int .u8 0) 1 1 Tryz.underlying26 hi0 hz0 hz1 hz2 rfl (by decide) _ O.length (bys O) rfl (World.ownsRow.alloc HJ.out.2 _) _ 4 (bys [b1, b2, b3, b4]) rfl (Bys.new _ [b1, b2, b3, b4] 4 rfl (by decide)) (by unfold maxLen; omega) (by omega) (by simp; have := HJ.out.1.size; omega) ?_); intro v2 W9 hown2 hgrow2; have HB9 : Hid (Below W.heap.size W W9) := Lib.hid (HJ.out.1.trans (((Below.refl W.heap.size wr).alloc HJ.out.1.size _).grown hgrow2 (by simp; have := HJ.out.1.size; omega) (fun k e => OwnB.ge HJ.out.2 e))); have HO9 : Hid (OwnB W9 W.heap.size v2 (O ++ [b1, b2, b3, b4])) := Lib.hid (OwnB.append rfl hown2); clear hown2 hgrow2)
        go_roundw
        case rel => exact ⟨5 + 1, by go_num, by omega, Lib.hid ⟨HB9.out, by show OwnB _ _ _ (OS 6); rw [HOj.out, HBE.out]; exact HO9.out⟩⟩
        case measure => simp [intOf]
       ·obtain ⟨A8, c8, rfl⟩ := HJ.out.2.form
        have HOj : Hid (OS 7 = OS 6 ++ be4 y6) := Lib.hid (HOS.out.2.1 6)
        have hol : (OS 6).length ≤ 32 := by rw [HOS.out.2.2 6]; decide
        generalize OS 6 = O at *
        rw [show ((6 : Nat) : Int) = 6 from rfl]
        have hix := ix_6 y0 y1 y2 y3 y4 y5 y6 y7 wr
        have e1 : y6 / 16777216 % 256 = (((ub (y6 / 16777216)).toNat : Nat) : Int) := (ub_val _).symm
        have e2 : y6 / 65536 % 256 = (((ub (y6 / 65536)).toNat : Nat) : Int) := (ub_val _).symm
        have e3 : y6 / 256 % 256 = (((ub (y6 / 256)).toNat : Nat) : Int) := (ub_val _).symm
        have e4 : y6 % 256 = (((ub y6).toNat : Nat) : Int) := (ub_val _).symm
        have HBE : Hid (be4 y6 = [ub (y6 / 16777216), ub (y6 / 65536), ub (y6 / 256), ub y6]) := Lib.hid rfl
        generalize ub (y6 / 16777216) = b1 at *
        generalize ub (y6 / 65536) = b2 at *
        generalize ub (y6 / 256) = b3 at *
        generalize ub y6 = b4 at *
        go_wp2_with (at_builtin; (refine wpList_append_any rfl (.tmp 50) (.tmp 62) 26 rfl W.heap.size 5 i0 (.int .u8 0) 1 1 Tryz.underlying26 hi0 hz0 hz1 hz2 rfl (by decide) _ O.length (bys O) rfl (World.ownsRow.alloc HJ.out.2 _) _ 4 (bys [b1, b2, b3, b4]) rfl (Bys.new _ [b1, b2, b3, b4] 4 rfl (by decide)) (by unfold maxLen; omega) (by omega) (by simp; have := HJ.out.1.size; omega) ?_); intro v2 W9 hown2 hgrow2; have HB9 : Hid (Below W.heap.size W W9) := Lib.hid (HJ.out.1.trans (((Below.refl W.heap.size wr).alloc HJ.out.1.size _).grown hgrow2 (by simp; have := HJ.out.1.size; omega) (fun k e => OwnB.ge HJ.out.2 e))); have HO9 : Hid (OwnB W9 W.heap.size v2 (O ++ [b1, b2, b3, b4])) := Lib.hid (OwnB.append rfl hown2); clear hown2 hgrow2)
        go_roundw
        case rel => exact ⟨6 + 1, by go_num, by omega, Lib.hid ⟨HB9.out, by show OwnB _ _ _ (OS 7); rw [HOj.out, HBE.out]; exact HO9.out⟩⟩
        case measure => simp [intOf]
       ·obtain ⟨A8, c8, rfl⟩ := HJ.out.2.form
        have HOj : Hid (OS 8 = OS 7 ++ be4 y7) := Lib.hid (HOS.out.2.1 7)
        have hol : (OS 7).length ≤ 32 := by rw [HOS.out.2.2 7]; decide
        generalize OS 7 = O at *
        rw [show ((7 : Nat) : Int) = 7 from rfl]
        have hix := ix_7 y0 y1 y2 y3 y4 y5 y6 y7 wr
        have e1 : y7 / 16777216 % 256 = (((ub (y7 / 16777216)).toNat : Nat) : Int) := (ub_val _).symm
        have e2 : y7 / 65536 % 256 = (((ub (y7 / 65536)).toNat : Nat) : Int) := (ub_val _).symm
        have e3 : y7 / 256 % 256 = (((ub (y7 / 256)).toNat : Nat) : Int) := (ub_val _).symm
        have e4 : y7 % 256 = (((ub y7).toNat : Nat) : Int) := (ub_val _).symm
        have HBE : Hid (be4 y7 = [ub (y7 / 16777216), ub (y7 / 65536), ub (y7 / 256), ub y7]) := Lib.hid rfl
        generalize ub (y7 / 16777216) = b1 at *
        generalize ub (y7 / 65536) = b2 at *
        generalize ub (y7 / 256) = b3 at *
        generalize ub y7 = b4 at *
        go_wp2_with (at_builtin; (refine wpList_append_any rfl (.tmp 50) (.tmp 62) 26 rfl W.heap.size 5 i0 (.int .u8 0) 1 1 Tryz.underlying26 hi0 hz0 hz1 hz2 rfl (by decide) _ O.length (bys O) rfl (World.ownsRow.alloc HJ.out.2 _) _ 4 (bys [b1, b2, b3, b4]) rfl (Bys.new _ [b1, b2, b3, b4] 4 rfl (by decide)) (by unfold maxLen; omega) (by omega) (by simp; have := HJ.out.1.size; omega) ?_); intro v2 W9 hown2 hgrow2; have HB9 : Hid (Below W.heap.size W W9) := Lib.hid (HJ.out.1.trans (((Below.refl W.heap.size wr).alloc HJ.out.1.size _).grown hgrow2 (by simp; have := HJ.out.1.size; omega) (fun k e => OwnB.ge HJ.out.2 e))); have HO9 : Hid (OwnB W9 W.heap.size v2 (O ++ [b1, b2, b3, b4])) := Lib.hid (OwnB.append rfl hown2); clear hown2 hgrow2)
        go_roundw
        case rel => exact ⟨7 + 1, by go_num, by omega, Lib.hid ⟨HB9.out, by show OwnB _ _ _ (OS 8); rw [HOj.out, HBE.out]; exact HO9.out⟩⟩
        case measure => simp [intOf]
       ·obtain ⟨A8, c8, rfl⟩ := HJ.out.2.form
        have HF8 := Lib.hid (show OwnB wr w.heap.size (.slice A8 (OS 8).length c8) (OS 8) from own_mono' HJ.out.2 (by have := HD.out.1.lt; omega))
        have hDl := (Array.getElem?_eq_some_iff.1 HD.out.2.2.2).1
        have HDK : Hid (wr.heap[D]? = some (.deferred (some []))) := Lib.hid ((HJ.out.1.block D hDl).trans HD.out.2.2.2)
        have HBW : Hid (Below w.heap.size w wr) := Lib.hid (HD.out.2.1.trans (HJ.out.1.mono HD.out.2.1.size))
        have hDw : w.heap.size ≤ D := by omega
        go_wp2
        refine ⟨by simp, .inl ⟨_, _, rfl, run_takeDeferred HDK.out, ?_⟩⟩
        exact ⟨_, results_tmp rfl _ _ _, _, rfl, by rw [HSO.out]; exact ownsRow_putObj HF8.out _ HDK.out rfl, HBW.out.trans (belowK_b (w := w) (Nat.le_refl _) wr D _ _ hDw HDK.out rfl rfl)⟩
     case stop =>
      rintro D c pre W _ _ h _
      exact h.elim
    ·have hij : j = (7 - i).toNat := by have := HQ.out.2.1; omega
     obtain rfl | rfl | rfl | rfl | rfl | rfl | rfl | rfl : i = 7 ∨ i = 6 ∨ i = 5 ∨ i = 4 ∨ i = 3 ∨ i = 2 ∨ i = 1 ∨ i = 0 := by omega
     all_goals (subst hij; simp only [Int.reduceSub, Int.reduceToNat] at HQ hQl)
     ·have eb : (l.length : Int) * 8 / 72057594037927936 = (((ub ((l.length : Int) * 8 / 72057594037927936)).toNat : Nat) : Int) := by rw [ub_val]; omega
      have HL8 : Hid (lens l.length (0 + 1) = lens l.length 0 ++ [ub ((l.length : Int) * 8 / 72057594037927936)]) := Lib.hid (rfl)
      generalize ub ((l.length : Int) * 8 / 72057594037927936) = bb at *
      go_wp2_with (at_builtin; (refine wpList_append_any rfl (.tmp 28) (.tmp 37) 26 rfl w3.heap.size 5 i0 (.int .u8 0) 1 1 Tryz.underlying26 hi0 hz0 hz1 hz2 rfl (by decide) _ Q.length (bys Q) rfl (World.ownsRow.alloc HQ.out.2.2.2 _) _ 1 (bys [bb]) rfl (Bys.new wr [bb] 1 rfl (by decide)) (by unfold maxLen; omega) (by omega) (by simp; have := HQ.out.2.2.1.size; omega) ?_); intro v2 W2 hown2 hgrow2; have HBX : Hid (Below w3.heap.size wr W2) := Lib.hid (((Below.refl w3.heap.size wr).alloc (by have := HQ.out.2.2.1.size; omega) _).grown hgrow2 (by simp; have := HQ.out.2.2.1.size; omega) (fun k e => OwnB.ge HQ.out.2.2.2 e)); have HOX : Hid (OwnB W2 w3.heap.size v2 (Q ++ [bb])) := Lib.hid (OwnB.append rfl hown2); clear hown2 hgrow2)
      go_roundw
      case rel => exact ⟨0 + 1, _, 7 - 1, rfl, by omega, by rw [List.length_append]; show Q.length + 1 ≤ _; omega, Lib.hid ⟨by rw [HQ.out.1, HL8.out, List.append_assoc], by decide, HQ.out.2.2.1.trans (HBX.out), HOX.out⟩⟩
      case measure => simp [intOf]
     ·have eb : (l.length : Int) * 8 / 281474976710656 = (((ub ((l.length : Int) * 8 / 281474976710656)).toNat : Nat) : Int) := by rw [ub_val]; omega
      have HL8 : Hid (lens l.length (1 + 1) = lens l.length 1 ++ [ub ((l.length : Int) * 8 / 281474976710656)]) := Lib.hid (rfl)
      generalize ub ((l.length : Int) * 8 / 281474976710656) = bb at *
      go_wp2_with (at_builtin; (refine wpList_append_any rfl (.tmp 28) (.tmp 37) 26 rfl w3.heap.size 5 i0 (.int .u8 0) 1 1 Tryz.underlying26 hi0 hz0 hz1 hz2 rfl (by decide) _ Q.length (bys Q) rfl (World.ownsRow.alloc HQ.out.2.2.2 _) _ 1 (bys [bb]) rfl (Bys.new wr [bb] 1 rfl (by decide)) (by unfold maxLen; omega) (by omega) (by simp; have := HQ.out.2.2.1.size; omega) ?_); intro v2 W2 hown2 hgrow2; have HBX : Hid (Below w3.heap.size wr W2) := Lib.hid (((Below.refl w3.heap.size wr).alloc (by have := HQ.out.2.2.1.size; omega) _).grown hgrow2 (by simp; have := HQ.out.2.2.1.size; omega) (fun k e => OwnB.ge HQ.out.2.2.2 e)); have HOX : Hid (OwnB W2 w3.heap.size v2 (Q ++ [bb])) := Lib.hid (OwnB.append rfl hown2); clear hown2 hgrow2)
      go_roundw
      case rel => exact ⟨1 + 1, _, 6 - 1, rfl, by omega, by rw [List.length_append]; show Q.length + 1 ≤ _; omega, Lib.hid ⟨by rw [HQ.out.1, HL8.out, List.append_assoc], by decide, HQ.out.2.2.1.trans (HBX.out), HOX.out⟩⟩
      case measure => simp [intOf]
     ·have eb : (l.length : Int) * 8 / 1099511627776 = (((ub ((l.length : Int) * 8 / 1099511627776)).toNat : Nat) : Int) := by rw [ub_val]; omega
      have HL8 : Hid (lens l.length (2 + 1) = lens l.length 2 ++ [ub ((l.length : Int) * 8 / 1099511627776)]) := Lib.hid (rfl)
      generalize ub ((l.length : Int) * 8 / 1099511627776) = bb at *
      go_wp2_with (at_builtin; (refine wpList_append_any rfl (.tmp 28) (.tmp 37) 26 rfl w3.heap.size 5 i0 (.int .u8 0) 1 1 Tryz.underlying26 hi0 hz0 hz1 hz2 rfl (by decide) _ Q.length (bys Q) rfl (World.ownsRow.alloc HQ.out.2.2.2 _) _ 1 (bys [bb]) rfl (Bys.new wr [bb] 1 rfl (by decide)) (by unfold maxLen; omega) (by omega) (by simp; have := HQ.out.2.2.1.size; omega) ?_); intro v2 W2 hown2 hgrow2; have HBX : Hid (Below w3.heap.size wr W2) := Lib.hid (((Below.refl w3.heap.size wr).alloc (by have := HQ.out.2.2.1.size; omega) _).grown hgrow2 (by simp; have := HQ.out.2.2.1.size; omega) (fun k e => OwnB.ge HQ.out.2.2.2 e)); have HOX : Hid (OwnB W2 w3.heap.size v2 (Q ++ [bb])) := Lib.hid (OwnB.append rfl hown2); clear hown2 hgrow2)
      go_roundw
      case rel => exact ⟨2 + 1, _, 5 - 1, rfl, by omega, by rw [List.length_append]; show Q.length + 1 ≤ _; omega, Lib.hid ⟨by rw [HQ.out.1, HL8.out, List.append_assoc], by decide, HQ.out.2.2.1.trans (HBX.out), HOX.out⟩⟩
      case measure => simp [intOf]
     ·have eb : ((l.length : Int) * 8 / 4294967296) % 256 = (((ub ((l.length : Int) * 8 / 4294967296)).toNat : Nat) : Int) := (ub_val _).symm
      have HL8 : Hid (lens l.length (3 + 1) = lens l.length 3 ++ [ub ((l.length : Int) * 8 / 4294967296)]) := Lib.hid (rfl)
      generalize ub ((l.length : Int) * 8 / 4294967296) = bb at *
      go_wp2_with (at_builtin; (refine wpList_append_any rfl (.tmp 28) (.tmp 37) 26 rfl w3.heap.size 5 i0 (.int .u8 0) 1 1 Tryz.underlying26 hi0 hz0 hz1 hz2 rfl (by decide) _ Q.length (bys Q) rfl (World.ownsRow.alloc HQ.out.2.2.2 _) _ 1 (bys [bb]) rfl (Bys.new wr [bb] 1 rfl (by decide)) (by unfold maxLen; omega) (by omega) (by simp; have := HQ.out.2.2.1.size; omega) ?_); intro v2 W2 hown2 hgrow2; have HBX : Hid (Below w3.heap.size wr W2) := Lib.hid (((Below.refl w3.heap.size wr).alloc (by have := HQ.out.2.2.1.size; omega) _).grown hgrow2 (by simp; have := HQ.out.2.2.1.size; omega) (fun k e => OwnB.ge HQ.out.2.2.2 e)); have HOX : Hid (OwnB W2 w3.heap.size v2 (Q ++ [bb])) := Lib.hid (OwnB.append rfl hown2); clear hown2 hgrow2)
      go_roundw
      case rel => exact ⟨3 + 1, _, 4 - 1, rfl, by omega, by rw [List.length_append]; show Q.length + 1 ≤ _; omega, Lib.hid ⟨by rw [HQ.out.1, HL8.out, List.append_assoc], by decide, HQ.out.2.2.1.trans (HBX.out), HOX.out⟩⟩
      case measure => simp [intOf]
     ·have eb : ((l.length : Int) * 8 / 16777216) % 256 = (((ub ((l.length : Int) * 8 / 16777216)).toNat : Nat) : Int) := (ub_val _).symm
      have HL8 : Hid (lens l.length (4 + 1) = lens l.length 4 ++ [ub ((l.length : Int) * 8 / 16777216)]) := Lib.hid (rfl)
      generalize ub ((l.length : Int) * 8 / 16777216) = bb at *
      go_wp2_with (at_builtin; (refine wpList_append_any rfl (.tmp 28) (.tmp 37) 26 rfl w3.heap.size 5 i0 (.int .u8 0) 1 1 Tryz.underlying26 hi0 hz0 hz1 hz2 rfl (by decide) _ Q.length (bys Q) rfl (World.ownsRow.alloc HQ.out.2.2.2 _) _ 1 (bys [bb]) rfl (Bys.new wr [bb] 1 rfl (by decide)) (by unfold maxLen; omega) (by omega) (by simp; have := HQ.out.2.2.1.size; omega) ?_); intro v2 W2 hown2 hgrow2; have HBX : Hid (Below w3.heap.size wr W2) := Lib.hid (((Below.refl w3.heap.size wr).alloc (by have := HQ.out.2.2.1.size; omega) _).grown hgrow2 (by simp; have := HQ.out.2.2.1.size; omega) (fun k e => OwnB.ge HQ.out.2.2.2 e)); have HOX : Hid (OwnB W2 w3.heap.size v2 (Q ++ [bb])) := Lib.hid (OwnB.append rfl hown2); clear hown2 hgrow2)
      go_roundw
      case rel => exact ⟨4 + 1, _, 3 - 1, rfl, by omega, by rw [List.length_append]; show Q.length + 1 ≤ _; omega, Lib.hid ⟨by rw [HQ.out.1, HL8.out, List.append_assoc], by decide, HQ.out.2.2.1.trans (HBX.out), HOX.out⟩⟩
      case measure => simp [intOf]
     ·have eb : ((l.length : Int) * 8 / 65536) % 256 = (((ub ((l.length : Int) * 8 / 65536)).toNat : Nat) : Int) := (ub_val _).symm
      have HL8 : Hid (lens l.length (5 + 1) = lens l.length 5 ++ [ub ((l.length : Int) * 8 / 65536)]) := Lib.hid (rfl)
      generalize ub ((l.length : Int) * 8 / 65536) = bb at *
      go_wp2_with (at_builtin; (refine wpList_append_any rfl (.tmp 28) (.tmp 37) 26 rfl w3.heap.size 5 i0 (.int .u8 0) 1 1 Tryz.underlying26 hi0 hz0 hz1 hz2 rfl (by decide) _ Q.length (bys Q) rfl (World.ownsRow.alloc HQ.out.2.2.2 _) _ 1 (bys [bb]) rfl (Bys.new wr [bb] 1 rfl (by decide)) (by unfold maxLen; omega) (by omega) (by simp; have := HQ.out.2.2.1.size; omega) ?_); intro v2 W2 hown2 hgrow2; have HBX : Hid (Below w3.heap.size wr W2) := Lib.hid (((Below.refl w3.heap.size wr).alloc (by have := HQ.out.2.2.1.size; omega) _).grown hgrow2 (by simp; have := HQ.out.2.2.1.size; omega) (fun k e => OwnB.ge HQ.out.2.2.2 e)); have HOX : Hid (OwnB W2 w3.heap.size v2 (Q ++ [bb])) := Lib.hid (OwnB.append rfl hown2); clear hown2 hgrow2)
      go_roundw
      case rel => exact ⟨5 + 1, _, 2 - 1, rfl, by omega, by rw [List.length_append]; show Q.length + 1 ≤ _; omega, Lib.hid ⟨by rw [HQ.out.1, HL8.out, List.append_assoc], by decide, HQ.out.2.2.1.trans (HBX.out), HOX.out⟩⟩
      case measure => simp [intOf]
     ·have eb : ((l.length : Int) * 8 / 256) % 256 = (((ub ((l.length : Int) * 8 / 256)).toNat : Nat) : Int) := (ub_val _).symm
      have HL8 : Hid (lens l.length (6 + 1) = lens l.length 6 ++ [ub ((l.length : Int) * 8 / 256)]) := Lib.hid (rfl)
      generalize ub ((l.length : Int) * 8 / 256) = bb at *
      go_wp2_with (at_builtin; (refine wpList_append_any rfl (.tmp 28) (.tmp 37) 26 rfl w3.heap.size 5 i0 (.int .u8 0) 1 1 Tryz.underlying26 hi0 hz0 hz1 hz2 rfl (by decide) _ Q.length (bys Q) rfl (World.ownsRow.alloc HQ.out.2.2.2 _) _ 1 (bys [bb]) rfl (Bys.new wr [bb] 1 rfl (by decide)) (by unfold maxLen; omega) (by omega) (by simp; have := HQ.out.2.2.1.size; omega) ?_); intro v2 W2 hown2 hgrow2; have HBX : Hid (Below w3.heap.size wr W2) := Lib.hid (((Below.refl w3.heap.size wr).alloc (by have := HQ.out.2.2.1.size; omega) _).grown hgrow2 (by simp; have := HQ.out.2.2.1.size; omega) (fun k e => OwnB.ge HQ.out.2.2.2 e)); have HOX : Hid (OwnB W2 w3.heap.size v2 (Q ++ [bb])) := Lib.hid (OwnB.append rfl hown2); clear hown2 hgrow2)
      go_roundw
      case rel => exact ⟨6 + 1, _, 1 - 1, rfl, by omega, by rw [List.length_append]; show Q.length + 1 ≤ _; omega, Lib.hid ⟨by rw [HQ.out.1, HL8.out, List.append_assoc], by decide, HQ.out.2.2.1.trans (HBX.out), HOX.out⟩⟩
      case measure => simp [intOf]
     ·have eb : ((l.length : Int) * 8) % 256 = (((ub ((l.length : Int) * 8)).toNat : Nat) : Int) := (ub_val _).symm
      have HL8 : Hid (lens l.length (7 + 1) = lens l.length 7 ++ [ub ((l.length : Int) * 8)]) := Lib.hid (by rw [show (l.length : Int) * 8 = (l.length : Int) * 8 / ((2 ^ (8 * (7 - 7)) : Nat) : Int) by simp]; rfl)
      generalize ub ((l.length : Int) * 8) = bb at *
      go_wp2_with (at_builtin; (refine wpList_append_any rfl (.tmp 28) (.tmp 37) 26 rfl w3.heap.size 5 i0 (.int .u8 0) 1 1 Tryz.underlying26 hi0 hz0 hz1 hz2 rfl (by decide) _ Q.length (bys Q) rfl (World.ownsRow.alloc HQ.out.2.2.2 _) _ 1 (bys [bb]) rfl (Bys.new wr [bb] 1 rfl (by decide)) (by unfold maxLen; omega) (by omega) (by simp; have := HQ.out.2.2.1.size; omega) ?_); intro v2 W2 hown2 hgrow2; have HBX : Hid (Below w3.heap.size wr W2) := Lib.hid (((Below.refl w3.heap.size wr).alloc (by have := HQ.out.2.2.1.size; omega) _).grown hgrow2 (by simp; have := HQ.out.2.2.1.size; omega) (fun k e => OwnB.ge HQ.out.2.2.2 e)); have HOX : Hid (OwnB W2 w3.heap.size v2 (Q ++ [bb])) := Lib.hid (OwnB.append rfl hown2); clear hown2 hgrow2)
      go_roundw
      case rel => exact ⟨7 + 1, _, 0 - 1, rfl, by omega, by rw [List.length_append]; show Q.length + 1 ≤ _; omega, Lib.hid ⟨by rw [HQ.out.1, HL8.out, List.append_assoc], by decide, HQ.out.2.2.1.trans (HBX.out), HOX.out⟩⟩
      case measure => simp [intOf]
  ·have hb : ((((Q.length : Nat) : Int) % 64) != 56) = true := by
    have h2 := HQL.out
    have h4 : (l.length + 1 + j) % 64 ≠ 56 := fun h => hz (zn_first _ _ h hj)
    have : ((Q.length : Nat) : Int) % 64 ≠ 56 := by omega
    simp [this]
   have HZ := Lib.hid hz
   clear hz
   have hsz3 := HQ.out.2.1.size
   go_wp2_with (at_builtin; (refine wpList_append_any rfl (.tmp 21) (.tmp 22) 26 rfl w3.heap.size 5 i0 (.int .u8 0) 1 1 Tryz.underlying26 hi0 hz0 hz1 hz2 rfl (by decide) _ Q.length (bys Q) rfl (World.ownsRow.alloc HQ.out.2.2 _) _ 1 (bys [0]) rfl (Bys.new wr [0] 1 rfl (by decide)) (by unfold maxLen; omega) (by omega) (by simp; omega) ?_); intro v3 W3 hown3 hgrow3; have HBX : Hid (Below w3.heap.size wr W3) := Lib.hid (((Below.refl w3.heap.size wr).alloc hsz3 _).grown hgrow3 (by simp; omega) (fun k e => OwnB.ge HQ.out.2.2 e)); have HOX : Hid (OwnB W3 w3.heap.size v3 (Q ++ [0])) := Lib.hid (OwnB.append rfl hown3); clear hown3 hgrow3)
   obtain ⟨A3, c3, rfl⟩ := HOX.out.form
   go_roundw
   case rel => exact ⟨j + 1, Q ++ [0], by have := HZ.out; omega, by rw [List.length_append]; have := HQL.out; simp; omega, Lib.hid ⟨by rw [HQ.out.1, List.append_assoc, List.cons_append, ← List.replicate_succ'], HQ.out.2.1.trans HBX.out, HOX.out⟩⟩
   case measure => simp [lenV]; have := HQL.out; have := HZN.out; omega
end Go.Proofs.YtlkgeifmppadmaaGreat
namespace Go.Proofs.YtlkgeifmppadmaaGreat
open Go.RowKit
set_option linter.unusedVariables false
set_option linter.unusedSimpArgs false

def tagH (b : UInt8) (ls : List (List UInt8)) : List UInt8 := sha (b :: ls.flatten)
theorem tagH_length (b : UInt8) (ls : List (List UInt8)) : (tagH b ls).length = 32 := sha_length _
set_option maxRecDepth 100000 in
set_option maxHeartbeats 1000000 in
theorem rtag_any (t : Int) (b : UInt8) (hb : ((b.toNat : Nat) : Int) = t) (v : Value) (ls : List (List UInt8)) (hsm : ls.flatten.length ≤ 100000000000) (hls : ls.length ≤ 100000000000) (w : World) (hx : Rws w v ls) :
  Calls Tryz.prog 44 #[.int .u8 t, v] w fun e w' => ∃ v', e = .returned v' ∧ OwnB w' w.heap.size v' (tagH b ls) ∧ Below w.heap.size w w' := by
 obtain ⟨i0, hi0, hz0, hz1, hz2⟩ := info_parts info_u8
 obtain ⟨A, c, rfl⟩ := hx.form
 have HX := Lib.hid (And.intro hx (bys_u8 b t hb))
 clear hx hb
 go_enter Tryz.func44, Tryz.ntmps44
 go_wp2
 go_loopw [5, 6] (fun v5 v6 wr => ∃ k : Nat, v6 = .int .i64 k ∧ k ≤ ls.length ∧ Hid (Below w.heap.size w wr ∧ OwnB wr w.heap.size v5 (b :: (ls.take k).flatten))) (fun _ v _ => ls.length - (intOf v).toNat)
 case atStart => exact ⟨0, rfl, Nat.zero_le _, Lib.hid ⟨(Below.refl _ _).alloc (Nat.le_refl _) _, by
  have := own_new (w := w) (base := w.heap.size) (size := 1) (n := 1) 5 [.int .u8 t] rfl (by decide) (Nat.le_refl _)
  show World.ownsRow _ _ _ _ _ 1 (bys [b])
  rw [HX.out.2]
  exact this⟩⟩
 case round =>
  obtain ⟨k, rfl, hk, HI⟩ := hrel
  have hlen : (b :: (ls.take k).flatten).length ≤ 100000000001 := by have := flat_le ls k; simp only [List.length_cons]; omega
  by_cases hlt : k < ls.length
  ·obtain ⟨g, o, u, rfl, hg, -, -, hcu, hbu⟩ := HX.out.1.at' k hlt
   have p0 := (HI.out.1.cell (p := ⟨g, o + k, none⟩) hg).trans hcu
   have HU := Lib.hid (hbu.below HI.out.1)
   have HT := Lib.hid (flat_take ls k hlt)
   have hlk : (b :: (ls.take k).flatten).length + ls[k].length ≤ 100000000001 := by have := flat_le ls (k + 1); rw [HT.out, List.length_append] at this; simp only [List.length_cons]; omega
   generalize ls[k] = x at *
   generalize (ls.take k).flatten = D at *
   have hsz := HI.out.1.size
   clear hcu hbu
   go_wp2_with (at_builtin; (refine wpList_append_any rfl (.tmp 15) (.tmp 19) 26 rfl w.heap.size 5 i0 (.int .u8 0) 1 1 Tryz.underlying26 hi0 hz0 hz1 hz2 rfl (by decide) _ _ _ rfl HI.out.2.any _ x.length (bys x) rfl HU.out.news (by unfold maxLen; omega) (by omega) hsz ?_); intro v2 W2 hown2 hgrow2; have HB2 : Hid (Below w.heap.size w W2) := Lib.hid (HI.out.1.grown hgrow2 hsz (fun k e => OwnB.ge HI.out.2 e)); have HO2 : Hid (OwnB W2 w.heap.size v2 ((b :: D) ++ x)) := Lib.hid (OwnB.append rfl hown2); clear hown2 hgrow2)
   go_roundw
   case rel => exact ⟨k + 1, by go_num, by omega, Lib.hid ⟨HB2.out, by rw [HT.out]; exact HO2.out⟩⟩
   case measure => simp [intOf]; omega
  ·obtain rfl : k = ls.length := by omega
   have HO := HI.out.2
   rw [List.take_length] at HO
   have HO2 := Lib.hid HO
   have hlen2 : (b :: ls.flatten).length ≤ 1000000000000 := by simp only [List.length_cons]; omega
   clear HO
   have HB := Lib.hid HI.out.1
   clear HI
   go_wp2_with fail
   refine (rsum_any _ (b :: ls.flatten) hlen2 wr HO2.out.bys).mono ?_
   rintro e w2 ⟨v', rfl, h1, h2⟩
   have HF := Lib.hid (And.intro h1 h2)
   clear h1 h2
   go_wp2
   go_ret
   exact ⟨_, rfl, own_mono' HF.out.1 HB.out.size, HB.out.trans (HF.out.2.mono HB.out.size)⟩
set_option maxRecDepth 100000 in
set_option maxHeartbeats 1000000 in
theorem ptag_any (t : Int) (b : UInt8) (hb : ((b.toNat : Nat) : Int) = t) (v : Value) (ls : List (List UInt8)) (hsm : ls.flatten.length ≤ 100000000000) (hls : ls.length ≤ 100000000000) (w : World) (hx : Rws w v ls) :
  Calls Tryz.prog 79 #[.int .u8 t, v] w fun e w' => ∃ v', e = .returned v' ∧ OwnB w' w.heap.size v' (tagH b ls) ∧ Below w.heap.size w w' := by
 obtain ⟨i0, hi0, hz0, hz1, hz2⟩ := info_parts info_u8
 obtain ⟨A, c, rfl⟩ := hx.form
 have HX := Lib.hid (And.intro hx (bys_u8 b t hb))
 clear hx hb
 go_enter Tryz.func79, Tryz.ntmps79
 go_wp2
 go_loopw [5, 12] (fun v5 v6 wr => ∃ k : Nat, v6 = .int .i64 k ∧ k ≤ ls.length ∧ Hid (Below w.heap.size w wr ∧ OwnB wr w.heap.size v5 (b :: (ls.take k).flatten))) (fun _ v _ => ls.length - (intOf v).toNat)
 case atStart => exact ⟨0, rfl, Nat.zero_le _, Lib.hid ⟨(Below.refl _ _).alloc (Nat.le_refl _) _, by
  have := own_new (w := w) (base := w.heap.size) (size := 1) (n := 1) 5 [.int .u8 t] rfl (by decide) (Nat.le_refl _)
  show World.ownsRow _ _ _ _ _ 1 (bys [b])
  rw [HX.out.2]
  exact this⟩⟩
 case round =>
  obtain ⟨k, rfl, hk, HI⟩ := hrel
  have hlen : (b :: (ls.take k).flatten).length ≤ 100000000001 := by have := flat_le ls k; simp only [List.length_cons]; omega
  by_cases hlt : k < ls.length
  ·obtain ⟨g, o, u, rfl, hg, -, -, hcu, hbu⟩ := HX.out.1.at' k hlt
   have p0 := (HI.out.1.cell (p := ⟨g, o + k, none⟩) hg).trans hcu
   have HU := Lib.hid (hbu.below HI.out.1)
   have HT := Lib.hid (flat_take ls k hlt)
   have hlk : (b :: (ls.take k).flatten).length + ls[k].length ≤ 100000000001 := by have := flat_le ls (k + 1); rw [HT.out, List.length_append] at this; simp only [List.length_cons]; omega
   generalize ls[k] = x at *
   generalize (ls.take k).flatten = D at *
   have hsz := HI.out.1.size
   clear hcu hbu
   go_wp2_with (at_builtin; (refine wpList_append_any rfl (.tmp 16) (.tmp 17) 26 rfl w.heap.size 5 i0 (.int .u8 0) 1 1 Tryz.underlying26 hi0 hz0 hz1 hz2 rfl (by decide) _ _ _ rfl HI.out.2.any _ x.length (bys x) rfl HU.out.news (by unfold maxLen; omega) (by omega) hsz ?_); intro v2 W2 hown2 hgrow2; have HB2 : Hid (Below w.heap.size w W2) := Lib.hid (HI.out.1.grown hgrow2 hsz (fun k e => OwnB.ge HI.out.2 e)); have HO2 : Hid (OwnB W2 w.heap.size v2 ((b :: D) ++ x)) := Lib.hid (OwnB.append rfl hown2); clear hown2 hgrow2)
   go_roundw
   case rel => exact ⟨k + 1, by go_num, by omega, Lib.hid ⟨HB2.out, by rw [HT.out]; exact HO2.out⟩⟩
   case measure => simp [intOf]; omega
  ·obtain rfl : k = ls.length := by omega
   have HO := HI.out.2
   rw [List.take_length] at HO
   have HO2 := Lib.hid HO
   have hlen2 : (b :: ls.flatten).length ≤ 1000000000000 := by simp only [List.length_cons]; omega
   clear HO
   have HB := Lib.hid HI.out.1
   clear HI
   go_wp2_with fail
   refine (psum_any _ (b :: ls.flatten) hlen2 wr HO2.out.bys).mono ?_
   rintro e w2 ⟨v', rfl, h1, h2⟩
   have HF := Lib.hid (And.intro h1 h2)
   clear h1 h2
   go_wp2
   go_ret
   exact ⟨_, rfl, own_mono' HF.out.1 HB.out.size, HB.out.trans (HF.out.2.mono HB.out.size)⟩
def RetB (w : World) (l : List UInt8) (e : Ending) (w' : World) : Prop := ∃ v', e = .returned v' ∧ OwnB w' w.heap.size v' l ∧ Below w.heap.size w w'

set_option maxRecDepth 100000 in
theorem rnum_any (base : Nat) (v : Value) (l : List UInt8) (n : Int) (hsm : l.length ≤ 1000000000000) (w : World) (hb : base ≤ w.heap.size) (ho : OwnB w base v l) :
  Calls Tryz.prog 76 #[v, .int .u32 n] w fun e w' => ∃ v', e = .returned v' ∧ OwnB w' base v' (l ++ be4 n) ∧ Below base w w' ∧ Chg w w' (fun k => v.ownBlock = some k) := by
 obtain ⟨i0, hi0, hz0, hz1, hz2⟩ := info_parts info_u8
 have HO := Lib.hid ho
 clear ho
 have e1 : n / 16777216 % 256 = (((ub (n / 16777216)).toNat : Nat) : Int) := (ub_val _).symm
 have e2 : n / 65536 % 256 = (((ub (n / 65536)).toNat : Nat) : Int) := (ub_val _).symm
 have e3 : n / 256 % 256 = (((ub (n / 256)).toNat : Nat) : Int) := (ub_val _).symm
 have e4 : n % 256 = (((ub n).toNat : Nat) : Int) := (ub_val _).symm
 have HBE : Hid (be4 n = [ub (n / 16777216), ub (n / 65536), ub (n / 256), ub n]) := Lib.hid rfl
 generalize ub (n / 16777216) = b1 at *
 generalize ub (n / 65536) = b2 at *
 generalize ub (n / 256) = b3 at *
 generalize ub n = b4 at *
 generalize hbe : be4 n = B at *
 go_enter Tryz.func76, Tryz.ntmps76
 go_wp2_with (at_builtin; (refine wpList_append_any rfl (.tmp 5) (.tmp 17) 26 rfl base 5 i0 (.int .u8 0) 1 1 Tryz.underlying26 hi0 hz0 hz1 hz2 rfl (by decide) _ _ _ rfl (World.ownsRow.alloc HO.out _) _ 4 (bys [b1, b2, b3, b4]) rfl (Bys.new w [b1, b2, b3, b4] 4 rfl (by decide)) (by unfold maxLen; omega) (by omega) (by simp; omega) ?_); intro v2 W2 hown2 hgrow2; have HB2 : Hid (Below base w W2) := Lib.hid (((Below.refl base w).alloc hb _).grown hgrow2 (by simp; omega) (fun k e => OwnB.ge HO.out e)); have HC2 : Hid (Chg w W2 (fun k => v.ownBlock = some k)) := Lib.hid (((Chg.refl w _).alloc _).trans (Chg.of_grown hgrow2) (fun i _ h => h.symm)); have HO2 : Hid (OwnB W2 base v2 (l ++ [b1, b2, b3, b4])) := Lib.hid (OwnB.append rfl hown2); clear hown2 hgrow2)
 go_ret
 exact ⟨_, rfl, by rw [HBE.out]; exact HO2.out, HB2.out, HC2.out⟩

def secretS (seed : List UInt8) (key bit side : Int) : List UInt8 := tagH 10 [seed, be4 key, [ub bit, ub side]]
def shownS (seed : List UInt8) (key bit side : Int) : List UInt8 := tagH 11 [secretS seed key bit side]
theorem secretS_length (seed : List UInt8) (key bit side : Int) : (secretS seed key bit side).length = 32 := tagH_length _ _
theorem shownS_length (seed : List UInt8) (key bit side : Int) : (shownS seed key bit side).length = 32 := tagH_length _ _
theorem be4_length (n : Int) : (be4 n).length = 4 := rfl

set_option maxRecDepth 100000 in
set_option maxHeartbeats 1000000 in
theorem rsecret_any (v : Value) (seed : List UInt8) (key bit side : Int) (hk : 0 ≤ key ∧ key < 1000) (hb : 0 ≤ bit ∧ bit < 256) (hs : 0 ≤ side ∧ side < 256) (hsm : seed.length ≤ 1000000000) (w : World) (hx : Bys w v seed) :
  Calls Tryz.prog 75 #[v, .int .i64 key, .int .i64 bit, .int .i64 side] w (RetB w (secretS seed key bit side)) := by
 obtain ⟨A, c, rfl⟩ := hx.form
 have HX := Lib.hid hx
 clear hx
 have HSS : Hid (secretS seed key bit side = tagH 10 [seed, be4 key, [ub bit, ub side]]) := Lib.hid rfl
 generalize secretS seed key bit side = SS at *
 have eb : bit = (((ub bit).toNat : Nat) : Int) := by rw [ub_val]; omega
 have es : side = (((ub side).toNat : Nat) : Int) := by rw [ub_val]; omega
 generalize ub bit = bb at *
 generalize ub side = sb at *
 subst eb es
 go_enter Tryz.func75, Tryz.ntmps75
 go_wp2_with fail
 refine (rnum_any w.heap.size _ [] key (by decide) w (Nat.le_refl _) (World.ownsRow_nil _ _ _ _)).mono ?_
 rintro e w1 ⟨v1, rfl, h1, h2, -⟩
 obtain ⟨A1, c1, rfl⟩ := h1.form
 have H1 := Lib.hid (And.intro h2 (And.intro (show Bys w1 _ (be4 key) from h1.bys) (HX.out.below h2)))
 clear h1 h2
 go_wp2_with fail
 have hal := (Below.refl w1.heap.size w1).alloc (Nat.le_refl _) (.cells (bys [bb, sb]).toArray 5)
 have hbb : Bys (w1.alloc (.cells (bys [bb, sb]).toArray 5)) (.slice (some ⟨w1.heap.size, 0, none⟩) 2 2) [bb, sb] := Sho.new w1 5 (bys [bb, sb]) 2 1 2 rfl (Nat.le_refl _) (by decide)
 have hal2 := (Below.refl w1.heap.size (w1.alloc (.cells (bys [bb, sb]).toArray 5))).alloc (by simp) (.cells #[.slice A seed.length c, .slice A1 ([] ++ be4 key).length c1, .slice (some ⟨w1.heap.size, 0, none⟩) 2 2] 26)
 refine (rtag_any 10 10 rfl _ [seed, be4 key, [bb, sb]] (by simp [be4_length]; omega) (by simp) _ (new3 26 (b := w1.heap.size + 1) (by simp) (H1.out.2.2.below hal) (H1.out.2.1.below hal) hbb)).mono ?_
 rintro e w2 ⟨v2, rfl, h1, h2⟩
 have H2 := Lib.hid (And.intro h1 (hal.trans (hal2.trans (h2.mono (by simp; omega)))))
 have hsz := hal2.size
 have hsz0 := hal.size
 clear h1 h2 hal hal2 hbb
 go_wp2
 go_ret
 exact ⟨_, rfl, by rw [HSS.out]; exact own_mono' H2.out.1 (by have := H1.out.1.size; omega), H1.out.1.trans (H2.out.2.mono H1.out.1.size)⟩
set_option maxRecDepth 100000 in
set_option maxHeartbeats 1000000 in
theorem rshown_any (v : Value) (seed : List UInt8) (key bit side : Int) (hk : 0 ≤ key ∧ key < 1000) (hb : 0 ≤ bit ∧ bit < 256) (hs : 0 ≤ side ∧ side < 256) (hsm : seed.length ≤ 1000000000) (w : World) (hx : Bys w v seed) :
  Calls Tryz.prog 70 #[v, .int .i64 key, .int .i64 bit, .int .i64 side] w (RetB w (shownS seed key bit side)) := by
 have HS := Lib.hid (rsecret_any v seed key bit side hk hb hs hsm w hx)
 obtain ⟨A, c, rfl⟩ := hx.form
 clear hx hk hb hs
 have HSS : Hid (shownS seed key bit side = tagH 11 [secretS seed key bit side]) := Lib.hid rfl
 have HL := Lib.hid (secretS_length seed key bit side)
 generalize secretS seed key bit side = S at *
 generalize shownS seed key bit side = SS at *
 go_enter Tryz.func70, Tryz.ntmps70
 go_wp2_with fail
 refine HS.out.mono ?_
 rintro e w1 ⟨v1, rfl, h1, h2⟩
 obtain ⟨A1, c1, rfl⟩ := h1.form
 have H1 := Lib.hid (And.intro h2 h1.bys)
 clear h1 h2 HS
 have hal := (Below.refl w1.heap.size w1).alloc (Nat.le_refl _) (.cells #[.slice A1 S.length c1] 26)
 go_wp2_with fail
 refine (rtag_any 11 11 rfl _ [S] (by simp; have := HL.out; omega) (by simp) _ (new1 26 (b := w1.heap.size) rfl H1.out.2)).mono ?_
 rintro e w2 ⟨v2, rfl, h1, h2⟩
 have H2 := Lib.hid (And.intro h1 (hal.trans (h2.mono (by simp))))
 clear h1 h2 hal
 go_wp2
 go_ret
 exact ⟨_, rfl, by rw [HSS.out]; exact own_mono' H2.out.1 (by have := H1.out.1.size; simp; omega), H1.out.1.trans (H2.out.2.mono H1.out.1.size)⟩

def digS (msg : List UInt8) : Int := wordAt (tagH 13 [msg]) 0 4
set_option maxRecDepth 100000 in
set_option maxHeartbeats 1000000 in
theorem rdigest_any (v : Value) (msg : List UInt8) (hsm : msg.length ≤ 1000000000) (w : World) (hx : Bys w v msg) :
  Calls Tryz.prog 74 #[v] w fun e w' => e = .returned (.int .u32 (digS msg)) ∧ Below w.heap.size w w' := by
 obtain ⟨A, c, rfl⟩ := hx.form
 have HX := Lib.hid hx
 clear hx
 have hL := tagH_length 13 [msg]
 have HD : Hid (∀ (h : 3 < (tagH 13 [msg]).length), digS msg = w4 ((tagH 13 [msg])[0]'(Nat.lt_of_le_of_lt (Nat.zero_le _) h)) ((tagH 13 [msg])[1]'(Nat.lt_of_le_of_lt (by decide) h)) ((tagH 13 [msg])[2]'(Nat.lt_of_le_of_lt (by decide) h)) ((tagH 13 [msg])[3]'h)) := Lib.hid (fun h => wordAt4 _ 0 h)
 generalize digS msg = DS at *
 generalize hTE : tagH 13 [msg] = T at *
 have HTE := Lib.hid hTE
 clear hTE
 go_enter Tryz.func74, Tryz.ntmps74
 have hal := (Below.refl w.heap.size w).alloc (Nat.le_refl _) (.cells #[.slice A msg.length c] 26)
 go_wp2_with fail
 have HT := Lib.hid (rtag_any 13 13 rfl _ [msg] (by simp; omega) (by simp) _ (new1 26 (b := w.heap.size) rfl HX.out))
 rw [HTE.out] at HT
 refine HT.out.mono ?_
 rintro e w1 ⟨v1, rfl, h1, h2⟩
 obtain ⟨A1, c1, rfl⟩ := h1.form
 obtain ⟨g, o, rfl, -, hg, hc1, -, hcells⟩ := h1.bys.place (by omega)
 have H1 := Lib.hid (hal.trans (h2.mono (by simp)))
 have h3 : 3 < T.length := by omega
 have p0 := hcells 0 (by omega)
 have p1 := hcells 1 (by omega)
 have p2 := hcells 2 (by omega)
 have p3 := hcells 3 h3
 rw [Nat.add_zero] at p0
 have HD2 := Lib.hid (HD.out h3)
 have t0 := (T[0]'(by omega)).toNat_lt
 have t1 := (T[1]'(by omega)).toNat_lt
 have t2 := (T[2]'(by omega)).toNat_lt
 have t3 := (T[3]'(by omega)).toNat_lt
 clear HD HT h1 h2 hal hcells
 generalize T[0]'(by omega) = b0 at *
 generalize T[1]'(by omega) = b1 at *
 generalize T[2]'(by omega) = b2 at *
 generalize T[3]'h3 = b3 at *
 have eb0 : ((b0.toNat : Nat) : Int) % 4294967296 = (b0.toNat : Nat) := by omega
 have eb1 : ((b1.toNat : Nat) : Int) % 4294967296 = (b1.toNat : Nat) := by omega
 have eb2 : ((b2.toNat : Nat) : Int) % 4294967296 = (b2.toNat : Nat) := by omega
 have eb3 : ((b3.toNat : Nat) : Int) % 4294967296 = (b3.toNat : Nat) := by omega
 have hl32 : (0 : Int) < (T.length : Int) ∧ (1 : Int) < (T.length : Int) ∧ (2 : Int) < (T.length : Int) ∧ (3 : Int) < (T.length : Int) := by omega
 obtain ⟨hl0, hl1, hl2, hl3⟩ := hl32
 have HLT := Lib.hid hL
 clear hL h3
 go_wp2
 go_quiet (fail)
 go_wp2
 go_ret
 exact ⟨by rw [HD2.out]; rfl, below_drewN H1.out _⟩
end Go.Proofs.YtlkgeifmppadmaaGreat
