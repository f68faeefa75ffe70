/- The reference's SHA-256. Conditions: as each theorem states them. -/
import Derived.Test.YtgeplpdcnanmnaaGreatZae
import Derived.Laws.CopyRow
namespace Go.Proofs.YtgeplpdcnanmnaaGreat
open Go.RowKit
set_option linter.unusedVariables false
set_option linter.unusedSimpArgs false

set_option maxRecDepth 100000 in
set_option maxHeartbeats 2000000 in
theorem constants_any (w : World) : Calls Tryz.prog 174 #[] w fun e w' => e = .returned (.agg (u32s shaK).toArray) ∧ Below w.heap.size w w' := by
 have hz : ((Tryz.prog.info? 220).bind (·.zero)).map (·.cells.size) = some shaK.length := by rw [zero64]; rfl
 go_enter Tryz.func174, Tryz.ntmps174
 have HB : Hid (Blk (w.alloc (.cells (u32s (List.replicate 64 0)).toArray 220)) w.heap.size 220 (u32s (List.replicate 64 0))) := Lib.hid (Blk.new w _ _)
 go_wp2_with (first
  | (refine wpList_buildFlatArrTo rfl 220 53 64 _ rfl .u32 shaK (some 1) rfl under_row64 size_u32 hz (by kernel_rfl) ?_)
  | (refine wpList_store_rowTo rfl 220 (.tmp 0) (.tmp 1) rfl rfl w.heap.size (u32s shaK).toArray rfl rfl 220 (u32s (List.replicate 64 0)).toArray HB.out (size_row64 shaK shaK_length) rfl (u32s_one shaK) ?_))
 have hfin := blk_setRow HB.out (u32s shaK)
 refine bodyPost_ret (v := .agg (u32s shaK).toArray) ?_ ?_ ⟨rfl, ?_⟩
 ·exact results_cell_row Tryz.results174 _ _ w.heap.size 220 _ (0, 0) _ rfl hfin under_row64 rfl (size_row64 shaK shaK_length)
 ·rfl
 ·exact ((Below.refl w.heap.size w).alloc (Nat.le_refl _) _).trans ((chg_setRow _ w.heap.size _).below (by simp) (fun k hk => by omega))
theorem block_8 (a b c d e f g1 h : Int) (kb g o c1 : Nat) (l : List UInt8) (hl : l.length = 64) (hc : 64 ≤ c1) (w : World) (hg : g < w.heap.size) (hx : BysAt w g o l) (hk : Blk w kb 220 (u32s shaK)) :
  Calls Tryz.prog 175 #[.agg #[.int .u32 a, .int .u32 b, .int .u32 c, .int .u32 d, .int .u32 e, .int .u32 f, .int .u32 g1, .int .u32 h], .pointer (some ⟨kb, 0, none⟩), .slice (some ⟨g, o, none⟩) 64 c1] w fun e1 w' => e1 = .returned (.agg (u32s (mixF shaK [a, b, c, d, e, f, g1, h] l)).toArray) ∧ Below w.heap.size w w' :=
 block_any [a, b, c, d, e, f, g1, h] shaK rfl shaK_length kb g o c1 l hl hc w hg hx hk

set_option maxRecDepth 100000 in
set_option maxHeartbeats 4000000 in
theorem rsum_any (v : Value) (l : List UInt8) (hsm : l.length ≤ 1000000000000) (w : World) (hx : Bys w v l) :
    Calls Tryz.prog 124 #[v] w fun e w' => ∃ v', e = .returned v' ∧ OwnB w' w.heap.size v' (sha l) ∧ Below w.heap.size w w' := by
  obtain ⟨i0, hi0, hz0, hz1, hz2⟩ := info_parts info_u8
  obtain ⟨A, c, rfl⟩ := hx.form
  have HX := Lib.hid hx
  clear hx
  go_enter Tryz.func124, Tryz.ntmps124
  go_wp2_with fail
  have bel0 := (Below.refl w.heap.size w).alloc (Nat.le_refl _) (.cells (u32s shaH).toArray 219)
  refine calls_at (fun w1 => Below w.heap.size w w1 ∧ Blk w1 w.heap.size 219 (u32s shaH)) ⟨bel0, Blk.new w 219 (u32s shaH)⟩ ?_
  clear bel0
  intro w1 hw1
  refine (constants_any w1).mono ?_
  rintro e w2 ⟨rfl, h2⟩
  have HW := Lib.hid (And.intro (hw1.1.trans (h2.mono hw1.1.size)) (hw1.2.below h2))
  clear hw1 h2
  have HB4 : Hid (Blk (w2.alloc (.cells (u32s (List.replicate 64 0)).toArray 220)) w2.heap.size 220 (u32s (List.replicate 64 0))) := Lib.hid (Blk.new w2 _ _)
  go_wp2_with (refine wpList_store_row rfl 220 (.tmp 4) (.tmp 11) rfl w2.heap.size (u32s shaK).toArray rfl rfl 220 _ HB4.out (size_row64 shaK shaK_length) rfl (u32s_one shaK) ?_)
  refine code_at (fun w3 => Below w.heap.size w w3 ∧ Blk w3 w.heap.size 219 (u32s shaH) ∧ Blk w3 w2.heap.size 220 (u32s shaK) ∧ w.heap.size < w2.heap.size) ⟨(HW.out.1.alloc HW.out.1.size _).trans ((chg_setRow _ w2.heap.size _).below (by simp; have := HW.out.1.size; omega) (fun k hk => by have := HW.out.1.size; omega)), (HW.out.2.alloc _).chg (chg_setRow _ w2.heap.size _) (by have := HW.out.2.lt; omega), blk_setRow HB4.out (u32s shaK), HW.out.2.lt⟩ ?_
  intro w3 hw3
  have HW3 := Lib.hid hw3
  have HWB : Hid (w.heap.size < w2.heap.size) := Lib.hid hw3.2.2.2
  clear hw3 HW HB4
  generalize w2.heap.size = B4 at *
  go_loopw [0] (fun v0 wr => ∃ (n : Nat), 64 * n ≤ l.length ∧ Hid (Below w.heap.size w wr ∧ Blk wr w.heap.size 219 (u32s (shaRun shaH l n)) ∧ Blk wr B4 220 (u32s shaK) ∧ Bys wr v0 (l.drop (64 * n)) ∧ (0 < (l.drop (64 * n)).length → ∀ q, v0.ownBlock = some q → q < w.heap.size))) (fun v _ => lenV v)
  case atStart => exact ⟨0, by omega, Lib.hid ⟨HW3.out.1, HW3.out.2.1, HW3.out.2.2.1, HX.out.below HW3.out.1, fun h0 => HX.out.lt h0⟩⟩
  case round =>
    obtain ⟨n, hn, HI⟩ := hrel
    obtain ⟨A0, c0, rfl⟩ := HI.out.2.2.2.1.form
    have HD : Hid ((l.drop (64 * n)).length + 64 * n = l.length) := Lib.hid (by rw [List.length_drop]; omega)
    generalize hDe : l.drop (64 * n) = D at *
    have HDE := Lib.hid hDe
    clear hDe
    by_cases hlt : 64 ≤ D.length
    · obtain ⟨g, o, rfl, -, hg, hc1, hc2, hcells⟩ := HI.out.2.2.2.1.place (by omega)
      have hgw : g < w.heap.size := HI.out.2.2.2.2 (by omega) g rfl
      have HBA : Hid (BysAt wr g o (D.take 64)) := Lib.hid (fun k hk => by
        have hk' : k < D.length := by rw [List.length_take] at hk; omega
        rw [List.getElem_take]; exact hcells k hk')
      clear hcells
      have hlen := shaRun_length shaH l rfl n
      have HR : Hid (shaRun shaH l (n + 1) = mixF shaK (shaRun shaH l n) (D.take 64)) := Lib.hid (by rw [← HDE.out]; rfl)
      generalize shaRun shaH l n = S0 at *
      obtain ⟨a, b, c2, d, e, f, g2, h8, rfl⟩ := eight hlen
      clear hlen
      have q0 := u32_get HI.out.2.1 0 (by simp)
      have q1 := u32_get HI.out.2.1 1 (by simp)
      have q2 := u32_get HI.out.2.1 2 (by simp)
      have q3 := u32_get HI.out.2.1 3 (by simp)
      have q4 := u32_get HI.out.2.1 4 (by simp)
      have q5 := u32_get HI.out.2.1 5 (by simp)
      have q6 := u32_get HI.out.2.1 6 (by simp)
      have q7 := u32_get HI.out.2.1 7 (by simp)
      simp only [List.getD_cons_zero, List.getD_cons_succ] at q0 q1 q2 q3 q4 q5 q6 q7
      have hc64 : (64 : Int) ≤ (c0 : Int) := by omega
      go_wp2
      refine wp_region_still_tail 3 (by kernel_rfl) (by kernel_rfl) ?_
      simp only [List.take_succ_cons, List.take_zero, List.drop_succ_cons, List.drop_zero]
      change wpStill _ _ wr.drew _ _ _
      still_step
      still_step
      still_step
      refine wpStill_nil ?_
      change wpList _ _ _ _ _ wr.drew
      clear q0 q1 q2 q3 q4 q5 q6 q7
      have HV := Lib.hid (And.intro HI.out.1.drew (And.intro HI.out.2.1.drew (And.intro HI.out.2.2.1.drew (show Bys wr.drew (.slice (some ⟨g, o, none⟩) D.length c0) D from HI.out.2.2.2.1))))
      have HBA2 : Hid (BysAt wr.drew g o (D.take 64)) := HBA
      have hg2 : g < wr.drew.heap.size := hg
      clear HBA HI
      generalize wr.drew = wz at *
      go_wp2_with fail
      refine (block_8 a b c2 d e f g2 h8 B4 g o c0 (D.take 64) (by rw [List.length_take]; omega) (by omega) _ hg2 HBA2.out HV.out.2.2.1).mono ?_
      rintro e1 w4 ⟨rfl, h4⟩
      have HM := Lib.hid (mixF_length shaK [a, b, c2, d, e, f, g2, h8] (D.take 64) rfl)
      generalize mixF shaK [a, b, c2, d, e, f, g2, h8] (D.take 64) = M at *
      have HU := Lib.hid (And.intro (HV.out.1.trans (h4.mono HV.out.1.size)) (And.intro (HV.out.2.1.below h4) (And.intro (HV.out.2.2.1.below h4) (HV.out.2.2.2.below h4))))
      clear h4 HV HBA2
      have hB : w.heap.size < B4 := HW3.out.2.2.2
      go_wp2_with (refine wpList_store_row rfl 219 (.tmp 3) (.tmp 20) rfl w.heap.size (u32s M).toArray rfl rfl 219 _ HU.out.2.1 (size_row8 M HM.out) (by simp [u32s, HM.out]) (u32s_one M) ?_)
      go_roundw
      case rel =>
        have hch := chg_setRow w4 w.heap.size (u32s M).toArray
        refine ⟨n + 1, by have := HD.out; omega, Lib.hid ⟨HU.out.1.trans (hch.below HU.out.1.size (fun k hk => by omega)), by rw [HR.out]; exact blk_setRow HU.out.2.1 (u32s M), HU.out.2.2.1.chg hch (by omega), ?_, ?_⟩⟩
        · rw [show 64 * (n + 1) = 64 * n + 64 by omega, ← List.drop_drop, HDE.out]
          by_cases hc : c0 = 64
          · rw [if_pos hc]
            exact Bys.tail_end 64 (by omega)
          · rw [if_neg hc]
            exact Sho.chg (HU.out.2.2.2.tail (by omega) 64 hlt) hch (fun q hq e => by have : g = q := by simpa [Value.ownBlock] using hq
                                                                                      omega)
        · intro _ q hq
          have : g = q := by
            by_cases hc : c0 = 64
            · rw [if_pos hc] at hq; simpa [Value.ownBlock] using hq
            · rw [if_neg hc] at hq; simpa [Value.ownBlock] using hq
          omega
      case measure => simp [lenV]; omega
    · have hD64 : D.length < 64 := by omega
      have hdf : decide ((64 : Int) ≤ (D.length : Int)) = false := by simp; omega
      have hDc : D.length ≤ 1000 := by omega
      have hnn : n ≤ 1000000000000 := by omega
      have HE : Hid (shaRun shaH l n = shaRun shaH (full l) n ∧ (full l).drop (64 * n) = D ++ 128 :: List.replicate (zn l.length) 0 ++ lens l.length 8) := Lib.hid ⟨by unfold full pad; rw [List.append_assoc, shaRun_more _ _ _ _ hn], by
        unfold full pad
        rw [List.append_assoc, List.drop_append_of_le_length hn, HDE.out, List.append_assoc]⟩
      have HV := HI
      clear HI HX HW3
      have hwr : w.heap.size ≤ wr.heap.size := HV.out.1.size
      have hB4 : Hid (B4 < wr.heap.size) := Lib.hid HV.out.2.2.1.lt
      have HNB : Hid (Blk (wr.alloc (.cells #[] 5)) wr.heap.size 5 []) := Lib.hid (Blk.new wr 5 [])
      have hal : Below wr.heap.size wr (wr.alloc (.cells #[] 5)) := (Below.refl _ _).alloc (Nat.le_refl _) _
      have HAL := Lib.hid hal
      have HSZ : Hid (wr.heap.size ≤ (wr.alloc (.cells #[] 5)).heap.size) := Lib.hid hal.size
      have HBD : Hid (Bys (wr.alloc (.cells #[] 5)) (.slice A0 D.length c0) D) := Lib.hid (HV.out.2.2.2.1.below hal)
      clear hal
      go_wp2_with (at_builtin; (first
        | ((refine wpList_append_any rfl (.tmp 23) (.tmp 24) 24 rfl wr.heap.size 5 i0 (.int .u8 0) 1 1 Tryz.underlying24 hi0 hz0 hz1 hz2 rfl (by decide) _ 0 [] rfl (own_none HNB.out (Nat.le_refl _)) _ D.length (bys D) rfl HBD.out.news (by unfold maxLen; omega) (by omega) HSZ.out ?_); intro v1 W1 hown1 hgrow1
           have HB1 : Hid (Below wr.heap.size wr W1) := Lib.hid (HAL.out.grown hgrow1 HSZ.out (fun k e => by have e' : some wr.heap.size = some k := e; injection e' with e'; omega))
           have HS1 : Hid (wr.heap.size ≤ W1.heap.size) := Lib.hid (Nat.le_trans HSZ.out hgrow1.size)
           have HO1 : Hid (OwnB W1 wr.heap.size v1 D) := Lib.hid (by unfold OwnB; simpa only [Nat.zero_add, List.nil_append] using hown1)
           clear hown1 hgrow1)
        | ((refine wpList_append_any rfl (.tmp 25) (.tmp 26) 24 rfl wr.heap.size 5 i0 (.int .u8 0) 1 1 Tryz.underlying24 hi0 hz0 hz1 hz2 rfl (by decide) _ D.length (bys D) rfl (World.ownsRow.alloc HO1.out _) _ 1 (bys [128]) rfl (Bys.new W1 [128] 1 rfl (by decide)) (by unfold maxLen; omega) (by omega) (by simp; have := HS1.out; omega) ?_); intro v2 W2 hown2 hgrow2
           have HB2 : Hid (Below wr.heap.size wr W2) := Lib.hid (HB1.out.trans (((Below.refl wr.heap.size W1).alloc HS1.out _).grown hgrow2 (by simp; have := HS1.out; omega) (fun k e => HO1.out.ge e)))
           have HS2 : Hid (wr.heap.size ≤ W2.heap.size) := Lib.hid (Nat.le_trans (by simp; have := HS1.out; omega) hgrow2.size)
           have HO2 : Hid (OwnB W2 wr.heap.size v2 (D ++ [128])) := Lib.hid (OwnB.append rfl hown2)
           clear hown2 hgrow2)))
      obtain ⟨wo, rfl⟩ : ∃ wo : World, wo = wr := ⟨_, rfl⟩
      have HDM : Hid ((l.length : Nat) % 64 = D.length ∧ zn l.length < 64) := Lib.hid ⟨by have := HD.out; omega, by unfold zn; omega⟩
      have HSO : Hid (wo.heap.size ≤ W2.heap.size) := HS2
      go_loopw [6] (fun v6 wr => ∃ (j : Nat) (Q : List UInt8), j ≤ zn l.length ∧ Q.length = D.length + 1 + j ∧ Hid (Q = D ++ 128 :: List.replicate j 0 ∧ True ∧ Below wo.heap.size W2 wr ∧ OwnB wr wo.heap.size v6 Q)) (fun v _ => 200 - lenV v)
      case atStart => exact ⟨0, D ++ [128], Nat.zero_le _, by simp, Lib.hid ⟨rfl, trivial, Below.refl _ _, HO2.out⟩⟩
      case round =>
        obtain ⟨j, Q, hj, hQl, HQ⟩ := hrel
        obtain ⟨A6, c6, rfl⟩ := HQ.out.2.2.2.form
        have hQb : Q.length ≤ 200 := by have := HDM.out.2; omega
        have HQL := Lib.hid hQl
        clear hQl
        by_cases hz : j = zn l.length
        · have hb : ((((Q.length : Nat) : Int) % 64) != 56) = false := by
            have h1 := zn_at l.length
            have h2 := HQL.out
            have h3 := HDM.out.1
            have : ((Q.length : Nat) : Int) % 64 = 56 := by omega
            simp [this]
          have HZ := Lib.hid hz
          clear hz
          go_wp2
          have HQ3 := Lib.hid (show Q = D ++ 128 :: List.replicate (zn l.length) 0 ∧ Below wo.heap.size W2 wr ∧ OwnB wr wo.heap.size (.slice A6 Q.length c6) Q from ⟨by rw [HQ.out.1, HZ.out], HQ.out.2.2.1, HQ.out.2.2.2⟩)
          have HP : Hid (Q.length ≤ 200) := Lib.hid hQb
          clear HQ hb hQb HQL
          generalize hQ0 : Q = Q0 at *
          clear hQ0
          go_loopw [6, 7] (fun v6 v7 wr => ∃ (j : Nat) (Q : List UInt8) (i : Int), v7 = .int .i64 i ∧ (-1 ≤ i ∧ i ≤ 7) ∧ Q.length ≤ 200 + j ∧ Hid (Q = Q0 ++ lens l.length j ∧ i = 7 - (j : Int) ∧ Below wo.heap.size W2 wr ∧ OwnB wr wo.heap.size v6 Q)) (fun _ v _ => (intOf v + 1).toNat)
          case atStart => exact ⟨0, Q0, 7, rfl, by decide, by have := HP.out; omega, Lib.hid ⟨by simp [lens], rfl, HQ3.out.2.1, HQ3.out.2.2⟩⟩
          case round =>
            obtain ⟨j, Q, i, rfl, hi, hQl, HQ⟩ := hrel
            obtain ⟨A6, c6, rfl⟩ := HQ.out.2.2.2.form
            by_cases hi1 : i = -1
            · obtain rfl : j = 8 := by have := HQ.out.2.1; omega
              subst hi1
              have HFQ : Hid ((full l).drop (64 * n) = Q ∧ (full l).length = 64 * n + Q.length ∧ Q.length % 64 = 0) := Lib.hid (by
                have h1 : (full l).drop (64 * n) = Q := by rw [HE.out.2, HQ.out.1, HQ3.out.1]
                have h2 : (full l).length = 64 * n + Q.length := by
                  have := full_length l
                  have h3 := congrArg List.length h1
                  rw [List.length_drop] at h3
                  omega
                have h4 := full_cut l
                exact ⟨h1, h2, by omega⟩)
              have hbw : Below wo.heap.size wo wr := HB2.out.trans HQ.out.2.2.1
              have HR2 := Lib.hid (show Below w.heap.size w wr ∧ Blk wr w.heap.size 219 (u32s (shaRun shaH (full l) n)) ∧ Blk wr B4 220 (u32s shaK) from ⟨HV.out.1.trans (hbw.mono HV.out.1.size), by rw [← HE.out.1]; exact HV.out.2.1.below hbw, HV.out.2.2.1.below hbw⟩)
              have HOQ := Lib.hid HQ.out.2.2.2
              have hwo : w.heap.size < wo.heap.size := HV.out.2.1.lt
              have hQl2 : Q.length ≤ 208 := by omega
              clear HQ hbw HQ3 hi
              go_wp2
              go_loopw [6] (fun v6 wr => ∃ (m : Nat), 64 * m ≤ Q.length ∧ Hid (Below w.heap.size w wr ∧ Blk wr w.heap.size 219 (u32s (shaRun shaH (full l) (n + m))) ∧ Blk wr B4 220 (u32s shaK) ∧ Bys wr v6 (Q.drop (64 * m)) ∧ (∀ q, v6.ownBlock = some q → wo.heap.size ≤ q))) (fun v _ => lenV v)
              case atStart => exact ⟨0, by omega, Lib.hid ⟨HR2.out.1, HR2.out.2.1, HR2.out.2.2, HOQ.out.bys, fun q hq => OwnB.ge HOQ.out hq⟩⟩
              case round =>
                obtain ⟨m, hm, HI⟩ := hrel
                obtain ⟨A6, c6, rfl⟩ := HI.out.2.2.2.1.form
                have HD2 : Hid ((Q.drop (64 * m)).length + 64 * m = Q.length) := Lib.hid (by rw [List.length_drop]; omega)
                generalize hDe : Q.drop (64 * m) = E at *
                have HEE := Lib.hid hDe
                clear hDe
                by_cases hlt : 0 < E.length
                · have hlt0 : (0 : Int) < (E.length : Int) := by omega
                  have hE64 : 64 ≤ E.length := by have := HD2.out; have := HFQ.out.2.2; omega
                  obtain ⟨g, o, rfl, -, hg, hc1, hc2, hcells⟩ := HI.out.2.2.2.1.place (by omega)
                  have hgw : wo.heap.size ≤ g := HI.out.2.2.2.2 g rfl
                  have HBA : Hid (BysAt wr g o (E.take 64)) := Lib.hid (fun k hk => by
                    have hk' : k < E.length := by rw [List.length_take] at hk; omega
                    rw [List.getElem_take]; exact hcells k hk')
                  clear hcells
                  have hlen := shaRun_length shaH (full l) rfl (n + m)
                  have HR : Hid (shaRun shaH (full l) (n + (m + 1)) = mixF shaK (shaRun shaH (full l) (n + m)) (E.take 64)) := Lib.hid (by
                    show mixF shaK (shaRun shaH (full l) (n + m)) (((full l).drop (64 * (n + m))).take 64) = _
                    rw [Nat.mul_add, ← List.drop_drop, HFQ.out.1, HEE.out])
                  generalize shaRun shaH (full l) (n + m) = S0 at *
                  obtain ⟨a, b, c2, d, e, f, g2, h8, rfl⟩ := eight hlen
                  clear hlen
                  have q0 := u32_get HI.out.2.1 0 (by simp)
                  have q1 := u32_get HI.out.2.1 1 (by simp)
                  have q2 := u32_get HI.out.2.1 2 (by simp)
                  have q3 := u32_get HI.out.2.1 3 (by simp)
                  have q4 := u32_get HI.out.2.1 4 (by simp)
                  have q5 := u32_get HI.out.2.1 5 (by simp)
                  have q6 := u32_get HI.out.2.1 6 (by simp)
                  have q7 := u32_get HI.out.2.1 7 (by simp)
                  simp only [List.getD_cons_zero, List.getD_cons_succ] at q0 q1 q2 q3 q4 q5 q6 q7
                  have hc64 : (64 : Int) ≤ (c6 : Int) := by omega
                  go_wp2
                  refine wp_region_still_tail 3 (by kernel_rfl) (by kernel_rfl) ?_
                  simp only [List.take_succ_cons, List.take_zero, List.drop_succ_cons, List.drop_zero]
                  change wpStill _ _ wr.drew _ _ _
                  still_step
                  still_step
                  still_step
                  refine wpStill_nil ?_
                  change wpList _ _ _ _ _ wr.drew
                  clear q0 q1 q2 q3 q4 q5 q6 q7
                  have HV2 := Lib.hid (And.intro HI.out.1.drew (And.intro HI.out.2.1.drew (And.intro HI.out.2.2.1.drew (show Bys wr.drew (.slice (some ⟨g, o, none⟩) E.length c6) E from HI.out.2.2.2.1))))
                  have HBA2 : Hid (BysAt wr.drew g o (E.take 64)) := HBA
                  have hg2 : g < wr.drew.heap.size := hg
                  clear HBA HI
                  generalize wr.drew = wz at *
                  go_wp2_with fail
                  refine (block_8 a b c2 d e f g2 h8 B4 g o c6 (E.take 64) (by rw [List.length_take]; omega) (by omega) _ hg2 HBA2.out HV2.out.2.2.1).mono ?_
                  rintro e1 w4 ⟨rfl, h4⟩
                  have HM := Lib.hid (mixF_length shaK [a, b, c2, d, e, f, g2, h8] (E.take 64) rfl)
                  generalize mixF shaK [a, b, c2, d, e, f, g2, h8] (E.take 64) = M at *
                  have HU := Lib.hid (And.intro (HV2.out.1.trans (h4.mono HV2.out.1.size)) (And.intro (HV2.out.2.1.below h4) (And.intro (HV2.out.2.2.1.below h4) (HV2.out.2.2.2.below h4))))
                  clear h4 HV2 HBA2
                  have hB : w.heap.size < B4 := HWB.out
                  go_wp2_with (refine wpList_store_row rfl 219 (.tmp 3) (.tmp 56) rfl w.heap.size (u32s M).toArray rfl rfl 219 _ HU.out.2.1 (size_row8 M HM.out) (by simp [u32s, HM.out]) (u32s_one M) ?_)
                  go_roundw
                  case rel =>
                    have hch := chg_setRow w4 w.heap.size (u32s M).toArray
                    refine ⟨m + 1, by have := HD2.out; omega, Lib.hid ⟨HU.out.1.trans (hch.below HU.out.1.size (fun k hk => by omega)), by rw [HR.out]; exact blk_setRow HU.out.2.1 (u32s M), HU.out.2.2.1.chg hch (by omega), ?_, ?_⟩⟩
                    · rw [show 64 * (m + 1) = 64 * m + 64 by omega, ← List.drop_drop, HEE.out]
                      by_cases hc : c6 = 64
                      · rw [if_pos hc]
                        exact Bys.tail_end 64 (by omega)
                      · rw [if_neg hc]
                        exact Sho.chg (HU.out.2.2.2.tail (by omega) 64 hE64) hch (fun q hq e => by have : g = q := by simpa [Value.ownBlock] using hq
                                                                                                   omega)
                    · intro q hq
                      have : g = q := by
                        by_cases hc : c6 = 64
                        · rw [if_pos hc] at hq; simpa [Value.ownBlock] using hq
                        · rw [if_neg hc] at hq; simpa [Value.ownBlock] using hq
                      omega
                  case measure => simp [lenV]; omega
                · have hE0 : E.length = 0 := by omega
                  have HS : Hid (shaRun shaH (full l) (n + m) = shaRun shaH (full l) ((full l).length / 64)) := Lib.hid (by
                    have h1 := HD2.out
                    have h2 := HFQ.out.2.1
                    rw [show (full l).length / 64 = n + m by omega])
                  have hbb := HI.out.2.1
                  rw [HS.out] at hbb
                  have HT := Lib.hid (And.intro HI.out.1 hbb)
                  have HL8 := Lib.hid (shaRun_length shaH (full l) rfl ((full l).length / 64))
                  clear hbb HI
                  generalize hSS : shaRun shaH (full l) ((full l).length / 64) = S at *
                  have HSS := Lib.hid hSS
                  clear hSS
                  have hEi : ((E.length : Nat) : Int) = 0 := by omega
                  have HEI := Lib.hid hEi
                  clear hEi
                  have hE1 : ¬ (0 : Int) < (E.length : Int) := by omega
                  obtain ⟨wo2, rfl⟩ : ∃ wo2 : World, wo2 = wr := ⟨_, rfl⟩
                  have hwo2 : w.heap.size < wo2.heap.size := HT.out.2.lt
                  go_wp2
                  go_loopw [8, 9] (fun v8 v9 wr => ∃ (j : Nat), v9 = .int .i64 j ∧ j ≤ 8 ∧ Hid (Below wo2.heap.size wo2 wr ∧ OwnB wr wo2.heap.size v8 (outs S j))) (fun _ v _ => 8 - (intOf v).toNat)
                  case atStart => exact ⟨0, rfl, by decide, Lib.hid ⟨Below.refl _ _, World.ownsRow_nil _ _ _ _⟩⟩
                  case round =>
                    obtain ⟨j, rfl, hj, HJ⟩ := hrel
                    by_cases hlt8 : j < 8
                    · have HBS := Lib.hid ((HT.out.2.chg (Chg.of_below (S := fun _ => False) HJ.out.1) (fun h => h)))
                      have qx := u32_get HBS.out j (by rw [HL8.out]; exact hlt8)
                      have HOS : Hid (outs S (j + 1) = outs S j ++ be4 (S.getD j 0)) := Lib.hid rfl
                      have hol : (outs S j).length ≤ 32 := by rw [outs_length]; omega
                      generalize S.getD j 0 = x at *
                      have e1 : x / 16777216 % 256 = (((ub (x / 16777216)).toNat : Nat) : Int) := (ub_val _).symm
                      have e2 : x / 65536 % 256 = (((ub (x / 65536)).toNat : Nat) : Int) := (ub_val _).symm
                      have e3 : x / 256 % 256 = (((ub (x / 256)).toNat : Nat) : Int) := (ub_val _).symm
                      have e4 : x % 256 = (((ub x).toNat : Nat) : Int) := (ub_val _).symm
                      have f1 : IntKind.u8.wrap (x / 16777216) = (((ub (x / 16777216)).toNat : Nat) : Int) := by rw [IntKind.wrap_u8]; exact (ub_val _).symm
                      have f2 : IntKind.u8.wrap (x / 65536) = (((ub (x / 65536)).toNat : Nat) : Int) := by rw [IntKind.wrap_u8]; exact (ub_val _).symm
                      have f3 : IntKind.u8.wrap (x / 256) = (((ub (x / 256)).toNat : Nat) : Int) := by rw [IntKind.wrap_u8]; exact (ub_val _).symm
                      have f4 : IntKind.u8.wrap x = (((ub x).toNat : Nat) : Int) := by rw [IntKind.wrap_u8]; exact (ub_val _).symm
                      have HBE : Hid (be4 x = [ub (x / 16777216), ub (x / 65536), ub (x / 256), ub x]) := Lib.hid rfl
                      generalize ub (x / 16777216) = b1 at *
                      generalize ub (x / 65536) = b2 at *
                      generalize ub (x / 256) = b3 at *
                      generalize ub x = b4 at *
                      go_wp2
                      go_region_law (first
                        | ((refine step_append_any rfl (.tmp 63) (.tmp 83) 24 rfl wo2.heap.size 5 i0 (.int .u8 0) 1 1 Tryz.underlying24 hi0 hz0 hz1 hz2 rfl (by decide) _ (outs S j).length (bys (outs S j)) rfl (by first | exact (HJ.out.2).any | exact World.ownsRow.alloc HJ.out.2 _) _ 4 (bys [b1, b2, b3, b4]) rfl (by first | exact Bys.new _ [b1, b2, b3, b4] 4 rfl (by decide) | exact Bys.new_drew _ [b1, b2, b3, b4] 4 rfl (by decide)) (by unfold maxLen; omega) (by omega) (by simp; have := HJ.out.1.size; omega) ?_); intro v2 W9 hown2 hgrow2
                           have HB9 : Hid (Below wo2.heap.size wo2 W9) := Lib.hid (HJ.out.1.trans (by first | exact ((((Below.refl wo2.heap.size wr).drew.alloc HJ.out.1.size _)).grown hgrow2 (by simp; have := HJ.out.1.size; omega) (fun k e => OwnB.ge HJ.out.2 e)) | exact ((((Below.refl wo2.heap.size wr).alloc HJ.out.1.size _).drew).grown hgrow2 (by simp; have := HJ.out.1.size; omega) (fun k e => OwnB.ge HJ.out.2 e))))
                           have HO9 : Hid (OwnB W9 wo2.heap.size v2 (outs S j ++ [b1, b2, b3, b4])) := Lib.hid (OwnB.append rfl hown2)
                           clear hown2 hgrow2))
                      all_goals
                        go_wp2
                        go_roundw
                        case rel => exact ⟨j + 1, by go_num, by omega, Lib.hid ⟨HB9.out, by rw [HOS.out, HBE.out]; exact HO9.out⟩⟩
                        case measure => simp [intOf]; omega
                    · obtain rfl : j = 8 := by omega
                      go_wp2
                      go_ret
                      exact ⟨_, rfl, own_mono' (by have := HJ.out.2; unfold OwnB at *; rw [← HSS.out] at this; exact this) (Nat.le_of_lt hwo2), HT.out.1.trans (HJ.out.1.mono (Nat.le_of_lt hwo2))⟩
            · have hij : j = (7 - i).toNat := by have := HQ.out.2.1; omega
              obtain rfl | rfl | rfl | rfl | rfl | rfl | rfl | rfl : i = 7 ∨ i = 6 ∨ i = 5 ∨ i = 4 ∨ i = 3 ∨ i = 2 ∨ i = 1 ∨ i = 0 := by omega
              all_goals (subst hij; simp only [Int.reduceSub, Int.reduceToNat] at HQ hQl)
              · have eb : (l.length : Int) * 8 / 72057594037927936 = (((ub ((l.length : Int) * 8 / 72057594037927936)).toNat : Nat) : Int) := by rw [ub_val]; omega
                have HL8 : Hid (lens l.length (0 + 1) = lens l.length 0 ++ [ub ((l.length : Int) * 8 / 72057594037927936)]) := Lib.hid (rfl)
                generalize ub ((l.length : Int) * 8 / 72057594037927936) = bb at *
                go_wp2_with (at_builtin; (refine wpList_append_any rfl (.tmp 39) (.tmp 48) 24 rfl wo.heap.size 5 i0 (.int .u8 0) 1 1 Tryz.underlying24 hi0 hz0 hz1 hz2 rfl (by decide) _ Q.length (bys Q) rfl (World.ownsRow.alloc HQ.out.2.2.2 _) _ 1 (bys [bb]) rfl (Bys.new wr [bb] 1 rfl (by decide)) (by unfold maxLen; omega) (by omega) (by simp; have := HQ.out.2.2.1.size; have := HSO.out; omega) ?_); intro v2 W2 hown2 hgrow2; have HBX : Hid (Below wo.heap.size wr W2) := Lib.hid (((Below.refl wo.heap.size wr).alloc (by have := HQ.out.2.2.1.size; have := HSO.out; omega) _).grown hgrow2 (by simp; have := HQ.out.2.2.1.size; have := HSO.out; omega) (fun k e => OwnB.ge HQ.out.2.2.2 e)); have HOX : Hid (OwnB W2 wo.heap.size v2 (Q ++ [bb])) := Lib.hid (OwnB.append rfl hown2); clear hown2 hgrow2)
                go_roundw
                case rel => exact ⟨0 + 1, _, 7 - 1, rfl, by omega, by rw [List.length_append]; show Q.length + 1 ≤ _; omega, Lib.hid ⟨by rw [HQ.out.1, HL8.out, List.append_assoc], by decide, HQ.out.2.2.1.trans (HBX.out), HOX.out⟩⟩
                case measure => simp [intOf]
              · have eb : (l.length : Int) * 8 / 281474976710656 = (((ub ((l.length : Int) * 8 / 281474976710656)).toNat : Nat) : Int) := by rw [ub_val]; omega
                have HL8 : Hid (lens l.length (1 + 1) = lens l.length 1 ++ [ub ((l.length : Int) * 8 / 281474976710656)]) := Lib.hid (rfl)
                generalize ub ((l.length : Int) * 8 / 281474976710656) = bb at *
                go_wp2_with (at_builtin; (refine wpList_append_any rfl (.tmp 39) (.tmp 48) 24 rfl wo.heap.size 5 i0 (.int .u8 0) 1 1 Tryz.underlying24 hi0 hz0 hz1 hz2 rfl (by decide) _ Q.length (bys Q) rfl (World.ownsRow.alloc HQ.out.2.2.2 _) _ 1 (bys [bb]) rfl (Bys.new wr [bb] 1 rfl (by decide)) (by unfold maxLen; omega) (by omega) (by simp; have := HQ.out.2.2.1.size; have := HSO.out; omega) ?_); intro v2 W2 hown2 hgrow2; have HBX : Hid (Below wo.heap.size wr W2) := Lib.hid (((Below.refl wo.heap.size wr).alloc (by have := HQ.out.2.2.1.size; have := HSO.out; omega) _).grown hgrow2 (by simp; have := HQ.out.2.2.1.size; have := HSO.out; omega) (fun k e => OwnB.ge HQ.out.2.2.2 e)); have HOX : Hid (OwnB W2 wo.heap.size v2 (Q ++ [bb])) := Lib.hid (OwnB.append rfl hown2); clear hown2 hgrow2)
                go_roundw
                case rel => exact ⟨1 + 1, _, 6 - 1, rfl, by omega, by rw [List.length_append]; show Q.length + 1 ≤ _; omega, Lib.hid ⟨by rw [HQ.out.1, HL8.out, List.append_assoc], by decide, HQ.out.2.2.1.trans (HBX.out), HOX.out⟩⟩
                case measure => simp [intOf]
              · have eb : (l.length : Int) * 8 / 1099511627776 = (((ub ((l.length : Int) * 8 / 1099511627776)).toNat : Nat) : Int) := by rw [ub_val]; omega
                have HL8 : Hid (lens l.length (2 + 1) = lens l.length 2 ++ [ub ((l.length : Int) * 8 / 1099511627776)]) := Lib.hid (rfl)
                generalize ub ((l.length : Int) * 8 / 1099511627776) = bb at *
                go_wp2_with (at_builtin; (refine wpList_append_any rfl (.tmp 39) (.tmp 48) 24 rfl wo.heap.size 5 i0 (.int .u8 0) 1 1 Tryz.underlying24 hi0 hz0 hz1 hz2 rfl (by decide) _ Q.length (bys Q) rfl (World.ownsRow.alloc HQ.out.2.2.2 _) _ 1 (bys [bb]) rfl (Bys.new wr [bb] 1 rfl (by decide)) (by unfold maxLen; omega) (by omega) (by simp; have := HQ.out.2.2.1.size; have := HSO.out; omega) ?_); intro v2 W2 hown2 hgrow2; have HBX : Hid (Below wo.heap.size wr W2) := Lib.hid (((Below.refl wo.heap.size wr).alloc (by have := HQ.out.2.2.1.size; have := HSO.out; omega) _).grown hgrow2 (by simp; have := HQ.out.2.2.1.size; have := HSO.out; omega) (fun k e => OwnB.ge HQ.out.2.2.2 e)); have HOX : Hid (OwnB W2 wo.heap.size v2 (Q ++ [bb])) := Lib.hid (OwnB.append rfl hown2); clear hown2 hgrow2)
                go_roundw
                case rel => exact ⟨2 + 1, _, 5 - 1, rfl, by omega, by rw [List.length_append]; show Q.length + 1 ≤ _; omega, Lib.hid ⟨by rw [HQ.out.1, HL8.out, List.append_assoc], by decide, HQ.out.2.2.1.trans (HBX.out), HOX.out⟩⟩
                case measure => simp [intOf]
              · have eb : ((l.length : Int) * 8 / 4294967296) % 256 = (((ub ((l.length : Int) * 8 / 4294967296)).toNat : Nat) : Int) := (ub_val _).symm
                have HL8 : Hid (lens l.length (3 + 1) = lens l.length 3 ++ [ub ((l.length : Int) * 8 / 4294967296)]) := Lib.hid (rfl)
                generalize ub ((l.length : Int) * 8 / 4294967296) = bb at *
                go_wp2_with (at_builtin; (refine wpList_append_any rfl (.tmp 39) (.tmp 48) 24 rfl wo.heap.size 5 i0 (.int .u8 0) 1 1 Tryz.underlying24 hi0 hz0 hz1 hz2 rfl (by decide) _ Q.length (bys Q) rfl (World.ownsRow.alloc HQ.out.2.2.2 _) _ 1 (bys [bb]) rfl (Bys.new wr [bb] 1 rfl (by decide)) (by unfold maxLen; omega) (by omega) (by simp; have := HQ.out.2.2.1.size; have := HSO.out; omega) ?_); intro v2 W2 hown2 hgrow2; have HBX : Hid (Below wo.heap.size wr W2) := Lib.hid (((Below.refl wo.heap.size wr).alloc (by have := HQ.out.2.2.1.size; have := HSO.out; omega) _).grown hgrow2 (by simp; have := HQ.out.2.2.1.size; have := HSO.out; omega) (fun k e => OwnB.ge HQ.out.2.2.2 e)); have HOX : Hid (OwnB W2 wo.heap.size v2 (Q ++ [bb])) := Lib.hid (OwnB.append rfl hown2); clear hown2 hgrow2)
                go_roundw
                case rel => exact ⟨3 + 1, _, 4 - 1, rfl, by omega, by rw [List.length_append]; show Q.length + 1 ≤ _; omega, Lib.hid ⟨by rw [HQ.out.1, HL8.out, List.append_assoc], by decide, HQ.out.2.2.1.trans (HBX.out), HOX.out⟩⟩
                case measure => simp [intOf]
              · have eb : ((l.length : Int) * 8 / 16777216) % 256 = (((ub ((l.length : Int) * 8 / 16777216)).toNat : Nat) : Int) := (ub_val _).symm
                have HL8 : Hid (lens l.length (4 + 1) = lens l.length 4 ++ [ub ((l.length : Int) * 8 / 16777216)]) := Lib.hid (rfl)
                generalize ub ((l.length : Int) * 8 / 16777216) = bb at *
                go_wp2_with (at_builtin; (refine wpList_append_any rfl (.tmp 39) (.tmp 48) 24 rfl wo.heap.size 5 i0 (.int .u8 0) 1 1 Tryz.underlying24 hi0 hz0 hz1 hz2 rfl (by decide) _ Q.length (bys Q) rfl (World.ownsRow.alloc HQ.out.2.2.2 _) _ 1 (bys [bb]) rfl (Bys.new wr [bb] 1 rfl (by decide)) (by unfold maxLen; omega) (by omega) (by simp; have := HQ.out.2.2.1.size; have := HSO.out; omega) ?_); intro v2 W2 hown2 hgrow2; have HBX : Hid (Below wo.heap.size wr W2) := Lib.hid (((Below.refl wo.heap.size wr).alloc (by have := HQ.out.2.2.1.size; have := HSO.out; omega) _).grown hgrow2 (by simp; have := HQ.out.2.2.1.size; have := HSO.out; omega) (fun k e => OwnB.ge HQ.out.2.2.2 e)); have HOX : Hid (OwnB W2 wo.heap.size v2 (Q ++ [bb])) := Lib.hid (OwnB.append rfl hown2); clear hown2 hgrow2)
                go_roundw
                case rel => exact ⟨4 + 1, _, 3 - 1, rfl, by omega, by rw [List.length_append]; show Q.length + 1 ≤ _; omega, Lib.hid ⟨by rw [HQ.out.1, HL8.out, List.append_assoc], by decide, HQ.out.2.2.1.trans (HBX.out), HOX.out⟩⟩
                case measure => simp [intOf]
              · have eb : ((l.length : Int) * 8 / 65536) % 256 = (((ub ((l.length : Int) * 8 / 65536)).toNat : Nat) : Int) := (ub_val _).symm
                have HL8 : Hid (lens l.length (5 + 1) = lens l.length 5 ++ [ub ((l.length : Int) * 8 / 65536)]) := Lib.hid (rfl)
                generalize ub ((l.length : Int) * 8 / 65536) = bb at *
                go_wp2_with (at_builtin; (refine wpList_append_any rfl (.tmp 39) (.tmp 48) 24 rfl wo.heap.size 5 i0 (.int .u8 0) 1 1 Tryz.underlying24 hi0 hz0 hz1 hz2 rfl (by decide) _ Q.length (bys Q) rfl (World.ownsRow.alloc HQ.out.2.2.2 _) _ 1 (bys [bb]) rfl (Bys.new wr [bb] 1 rfl (by decide)) (by unfold maxLen; omega) (by omega) (by simp; have := HQ.out.2.2.1.size; have := HSO.out; omega) ?_); intro v2 W2 hown2 hgrow2; have HBX : Hid (Below wo.heap.size wr W2) := Lib.hid (((Below.refl wo.heap.size wr).alloc (by have := HQ.out.2.2.1.size; have := HSO.out; omega) _).grown hgrow2 (by simp; have := HQ.out.2.2.1.size; have := HSO.out; omega) (fun k e => OwnB.ge HQ.out.2.2.2 e)); have HOX : Hid (OwnB W2 wo.heap.size v2 (Q ++ [bb])) := Lib.hid (OwnB.append rfl hown2); clear hown2 hgrow2)
                go_roundw
                case rel => exact ⟨5 + 1, _, 2 - 1, rfl, by omega, by rw [List.length_append]; show Q.length + 1 ≤ _; omega, Lib.hid ⟨by rw [HQ.out.1, HL8.out, List.append_assoc], by decide, HQ.out.2.2.1.trans (HBX.out), HOX.out⟩⟩
                case measure => simp [intOf]
              · have eb : ((l.length : Int) * 8 / 256) % 256 = (((ub ((l.length : Int) * 8 / 256)).toNat : Nat) : Int) := (ub_val _).symm
                have HL8 : Hid (lens l.length (6 + 1) = lens l.length 6 ++ [ub ((l.length : Int) * 8 / 256)]) := Lib.hid (rfl)
                generalize ub ((l.length : Int) * 8 / 256) = bb at *
                go_wp2_with (at_builtin; (refine wpList_append_any rfl (.tmp 39) (.tmp 48) 24 rfl wo.heap.size 5 i0 (.int .u8 0) 1 1 Tryz.underlying24 hi0 hz0 hz1 hz2 rfl (by decide) _ Q.length (bys Q) rfl (World.ownsRow.alloc HQ.out.2.2.2 _) _ 1 (bys [bb]) rfl (Bys.new wr [bb] 1 rfl (by decide)) (by unfold maxLen; omega) (by omega) (by simp; have := HQ.out.2.2.1.size; have := HSO.out; omega) ?_); intro v2 W2 hown2 hgrow2; have HBX : Hid (Below wo.heap.size wr W2) := Lib.hid (((Below.refl wo.heap.size wr).alloc (by have := HQ.out.2.2.1.size; have := HSO.out; omega) _).grown hgrow2 (by simp; have := HQ.out.2.2.1.size; have := HSO.out; omega) (fun k e => OwnB.ge HQ.out.2.2.2 e)); have HOX : Hid (OwnB W2 wo.heap.size v2 (Q ++ [bb])) := Lib.hid (OwnB.append rfl hown2); clear hown2 hgrow2)
                go_roundw
                case rel => exact ⟨6 + 1, _, 1 - 1, rfl, by omega, by rw [List.length_append]; show Q.length + 1 ≤ _; omega, Lib.hid ⟨by rw [HQ.out.1, HL8.out, List.append_assoc], by decide, HQ.out.2.2.1.trans (HBX.out), HOX.out⟩⟩
                case measure => simp [intOf]
              · have eb : ((l.length : Int) * 8) % 256 = (((ub ((l.length : Int) * 8)).toNat : Nat) : Int) := (ub_val _).symm
                have HL8 : Hid (lens l.length (7 + 1) = lens l.length 7 ++ [ub ((l.length : Int) * 8)]) := Lib.hid (by rw [show (l.length : Int) * 8 = (l.length : Int) * 8 / ((2 ^ (8 * (7 - 7)) : Nat) : Int) by simp]; rfl)
                generalize ub ((l.length : Int) * 8) = bb at *
                go_wp2_with (at_builtin; (refine wpList_append_any rfl (.tmp 39) (.tmp 48) 24 rfl wo.heap.size 5 i0 (.int .u8 0) 1 1 Tryz.underlying24 hi0 hz0 hz1 hz2 rfl (by decide) _ Q.length (bys Q) rfl (World.ownsRow.alloc HQ.out.2.2.2 _) _ 1 (bys [bb]) rfl (Bys.new wr [bb] 1 rfl (by decide)) (by unfold maxLen; omega) (by omega) (by simp; have := HQ.out.2.2.1.size; have := HSO.out; omega) ?_); intro v2 W2 hown2 hgrow2; have HBX : Hid (Below wo.heap.size wr W2) := Lib.hid (((Below.refl wo.heap.size wr).alloc (by have := HQ.out.2.2.1.size; have := HSO.out; omega) _).grown hgrow2 (by simp; have := HQ.out.2.2.1.size; have := HSO.out; omega) (fun k e => OwnB.ge HQ.out.2.2.2 e)); have HOX : Hid (OwnB W2 wo.heap.size v2 (Q ++ [bb])) := Lib.hid (OwnB.append rfl hown2); clear hown2 hgrow2)
                go_roundw
                case rel => exact ⟨7 + 1, _, 0 - 1, rfl, by omega, by rw [List.length_append]; show Q.length + 1 ≤ _; omega, Lib.hid ⟨by rw [HQ.out.1, HL8.out, List.append_assoc], by decide, HQ.out.2.2.1.trans (HBX.out), HOX.out⟩⟩
                case measure => simp [intOf]
        · have hb : ((((Q.length : Nat) : Int) % 64) != 56) = true := by
            have h2 := HQL.out
            have h3 := HDM.out.1
            have h4 : (l.length + 1 + j) % 64 ≠ 56 := fun h => hz (zn_first _ _ h hj)
            have : ((Q.length : Nat) : Int) % 64 ≠ 56 := by omega
            simp [this]
          have HZ := Lib.hid hz
          clear hz
          go_wp2_with (at_builtin; (refine wpList_append_any rfl (.tmp 32) (.tmp 33) 24 rfl wo.heap.size 5 i0 (.int .u8 0) 1 1 Tryz.underlying24 hi0 hz0 hz1 hz2 rfl (by decide) _ Q.length (bys Q) rfl (World.ownsRow.alloc HQ.out.2.2.2 _) _ 1 (bys [0]) rfl (Bys.new wr [0] 1 rfl (by decide)) (by unfold maxLen; omega) (by omega) (by simp; have := HQ.out.2.2.1.size; have := HSO.out; omega) ?_); intro v3 W3 hown3 hgrow3; have HBX : Hid (Below wo.heap.size wr W3) := Lib.hid (((Below.refl wo.heap.size wr).alloc (by have := HQ.out.2.2.1.size; have := HSO.out; omega) _).grown hgrow3 (by simp; have := HQ.out.2.2.1.size; have := HSO.out; omega) (fun k e => OwnB.ge HQ.out.2.2.2 e)); have HOX : Hid (OwnB W3 wo.heap.size v3 (Q ++ [0])) := Lib.hid (OwnB.append rfl hown3); clear hown3 hgrow3)
          obtain ⟨A3, c3, rfl⟩ := HOX.out.form
          go_roundw
          case rel => exact ⟨j + 1, Q ++ [0], by have := HZ.out; omega, by rw [List.length_append]; have := HQL.out; simp; omega, Lib.hid ⟨by rw [HQ.out.1, List.append_assoc, List.cons_append, ← List.replicate_succ'], trivial, HQ.out.2.2.1.trans HBX.out, HOX.out⟩⟩
          case measure => simp [lenV]; have := HQL.out; have := HDM.out.2; omega
end Go.Proofs.YtgeplpdcnanmnaaGreat
