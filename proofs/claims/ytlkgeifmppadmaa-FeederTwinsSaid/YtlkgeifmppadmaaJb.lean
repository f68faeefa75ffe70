/- SHA-256 as a plain function. The reference's SHA-256. Rows of bytes in memory. The reference's Tagged. The reference's keys that sign once: secrets, what is shown, the public part. The reference's keys that sign once: the public part, signing, the root. Conditions: as each theorem states them. -/
import Derived.Test.YtlkgeifmppadmaaJa
import Derived.Laws.CopyRow
namespace Go.Proofs.Ytlkgeifmppadmaa
open Go.RowKit
set_option linter.unusedVariables false

def shaH : List Int := [1779033703, 3144134277, 1013904242, 2773480762, 1359893119, 2600822924, 528734635, 1541459225]
def shaRun (s : List Int) (f : List UInt8) : Nat → List Int
  | 0 => s
  | n + 1 => mixF shaK (shaRun s f n) ((f.drop (64 * n)).take 64)
theorem shaRun_length (s : List Int) (f : List UInt8) (h : s.length = 8) (n : Nat) : (shaRun s f n).length = 8 := by
  induction n with
  | zero => exact h
  | succ n ih => exact mixF_length _ _ _ ih
theorem shaRun_more (s : List Int) (f g : List UInt8) : ∀ n, 64 * n ≤ f.length → shaRun s (f ++ g) n = shaRun s f n
  | 0, _ => rfl
  | n + 1, h => by
    show mixF shaK (shaRun s (f ++ g) n) _ = mixF shaK (shaRun s f n) _
    rw [shaRun_more s f g n (by omega), List.drop_append_of_le_length (by omega), List.take_append_of_le_length (by rw [List.length_drop]; omega)]
def zn (n : Nat) : Nat := (119 - n % 64) % 64
theorem zn_at (n : Nat) : (n + 1 + zn n) % 64 = 56 := by unfold zn; omega
theorem zn_first (n j : Nat) (h : (n + 1 + j) % 64 = 56) (hj : j ≤ zn n) : j = zn n := by unfold zn at *; omega
def lens (n : Nat) : Nat → List UInt8
  | 0 => []
  | j + 1 => lens n j ++ [ub ((n : Int) * 8 / (2 ^ (8 * (7 - j)) : Nat))]
theorem lens_length (n j : Nat) : (lens n j).length = j := by
  induction j with
  | zero => rfl
  | succ j ih => show (lens n j ++ [_]).length = _; rw [List.length_append, ih]; rfl
def pad (l : List UInt8) (j : Nat) : List UInt8 := l ++ 128 :: List.replicate j 0
theorem pad_length (l : List UInt8) (j : Nat) : (pad l j).length = l.length + 1 + j := by simp [pad]; omega
theorem pad_succ (l : List UInt8) (j : Nat) : pad l (j + 1) = pad l j ++ [0] := by
  unfold pad
  rw [List.append_assoc, List.cons_append, ← List.replicate_succ']
def full (l : List UInt8) : List UInt8 := pad l (zn l.length) ++ lens l.length 8
theorem full_length (l : List UInt8) : (full l).length = l.length + 1 + zn l.length + 8 := by unfold full; rw [List.length_append, pad_length, lens_length]
theorem full_cut (l : List UInt8) : (full l).length % 64 = 0 := by
  rw [full_length]
  have := zn_at l.length
  omega
def be4 (x : Int) : List UInt8 := [ub (x / 16777216), ub (x / 65536), ub (x / 256), ub x]
def outs (s : List Int) : Nat → List UInt8
  | 0 => []
  | j + 1 => outs s j ++ be4 (s.getD j 0)
theorem outs_length (s : List Int) (j : Nat) : (outs s j).length = 4 * j := by
  induction j with
  | zero => rfl
  | succ j ih => show (outs s j ++ be4 _).length = _; rw [List.length_append, ih]; rfl
/-- SHA-256. -/
def sha (l : List UInt8) : List UInt8 := outs (shaRun shaH (full l) ((full l).length / 64)) 8
theorem sha_length (l : List UInt8) : (sha l).length = 32 := outs_length _ _
theorem bys_be4 (x : Int) : bys (be4 x) = [.int .u8 (x / 16777216 % 256), .int .u8 (x / 65536 % 256), .int .u8 (x / 256 % 256), .int .u8 (x % 256)] := by
  simp only [bys, be4, List.map_cons, List.map_nil, ub_val]
end Go.Proofs.Ytlkgeifmppadmaa
namespace Go.Proofs.Ytlkgeifmppadmaa
open Go.RowKit
set_option linter.unusedVariables false
set_option linter.unusedSimpArgs false

set_option maxRecDepth 100000 in
set_option maxHeartbeats 2000000 in
theorem constants_any (w : World) : Calls Try.prog 70 #[] w fun e w' => e = .returned (.agg (u32s shaK).toArray) ∧ Below w.heap.size w w' := by
  have hz : ((Try.prog.info? 127).bind (·.zero)).map (·.cells.size) = some shaK.length := by rw [zero64]; rfl
  go_enter Try.func70, Try.ntmps70
  have HB : Hid (Blk (w.alloc (.cells (u32s (List.replicate 64 0)).toArray 127)) w.heap.size 127 (u32s (List.replicate 64 0))) := Lib.hid (Blk.new w _ _)
  go_wp2_with (first
    | (refine wpList_buildFlatArrTo rfl 127 123 64 _ rfl .u32 shaK (some 1) rfl under_row64 size_u32 hz (by kernel_rfl) ?_)
    | (refine wpList_store_rowTo rfl 127 (.tmp 0) (.tmp 1) rfl rfl w.heap.size (u32s shaK).toArray rfl rfl 127 (u32s (List.replicate 64 0)).toArray HB.out (size_row64 shaK shaK_length) rfl (u32s_one shaK) ?_))
  have hfin := blk_setRow HB.out (u32s shaK)
  refine bodyPost_ret (v := .agg (u32s shaK).toArray) ?_ ?_ ⟨rfl, ?_⟩
  · exact results_cell_row Try.results70 _ _ w.heap.size 127 _ (0, 0) _ rfl hfin under_row64 rfl (size_row64 shaK shaK_length)
  · rfl
  · exact ((Below.refl w.heap.size w).alloc (Nat.le_refl _) _).trans ((chg_setRow _ w.heap.size _).below (by simp) (fun k hk => by omega))
theorem block_8 (a b c d e f g1 h : Int) (kb g o c1 : Nat) (l : List UInt8) (hl : l.length = 64) (hc : 64 ≤ c1) (w : World) (hg : g < w.heap.size) (hx : BysAt w g o l) (hk : Blk w kb 127 (u32s shaK)) :
    Calls Try.prog 71 #[.agg #[.int .u32 a, .int .u32 b, .int .u32 c, .int .u32 d, .int .u32 e, .int .u32 f, .int .u32 g1, .int .u32 h], .pointer (some ⟨kb, 0, none⟩), .slice (some ⟨g, o, none⟩) 64 c1] w fun e1 w' => e1 = .returned (.agg (u32s (mixF shaK [a, b, c, d, e, f, g1, h] l)).toArray) ∧ Below w.heap.size w w' :=
  block_any [a, b, c, d, e, f, g1, h] shaK rfl shaK_length kb g o c1 l hl hc w hg hx hk

set_option maxRecDepth 100000 in
set_option maxHeartbeats 4000000 in
theorem rsum_any (v : Value) (l : List UInt8) (hsm : l.length ≤ 1000000000000) (w : World) (hx : Bys w v l) :
    Calls Try.prog 51 #[v] w fun e w' => ∃ v', e = .returned v' ∧ OwnB w' w.heap.size v' (sha l) ∧ Below w.heap.size w w' := by
  obtain ⟨i0, hi0, hz0, hz1, hz2⟩ := info_parts info_u8
  obtain ⟨A, c, rfl⟩ := hx.form
  have HX := Lib.hid hx
  clear hx
  go_enter Try.func51, Try.ntmps51
  go_wp2_with fail
  have bel0 := (Below.refl w.heap.size w).alloc (Nat.le_refl _) (.cells (u32s shaH).toArray 126)
  refine calls_at (fun w1 => Below w.heap.size w w1 ∧ Blk w1 w.heap.size 126 (u32s shaH)) ⟨bel0, Blk.new w 126 (u32s shaH)⟩ ?_
  clear bel0
  intro w1 hw1
  refine (constants_any w1).mono ?_
  rintro e w2 ⟨rfl, h2⟩
  have HW := Lib.hid (And.intro (hw1.1.trans (h2.mono hw1.1.size)) (hw1.2.below h2))
  clear hw1 h2
  have HB4 : Hid (Blk (w2.alloc (.cells (u32s (List.replicate 64 0)).toArray 127)) w2.heap.size 127 (u32s (List.replicate 64 0))) := Lib.hid (Blk.new w2 _ _)
  go_wp2_with (refine wpList_store_row rfl 127 (.tmp 4) (.tmp 11) rfl w2.heap.size (u32s shaK).toArray rfl rfl 127 _ HB4.out (size_row64 shaK shaK_length) rfl (u32s_one shaK) ?_)
  refine code_at (fun w3 => Below w.heap.size w w3 ∧ Blk w3 w.heap.size 126 (u32s shaH) ∧ Blk w3 w2.heap.size 127 (u32s shaK) ∧ w.heap.size < w2.heap.size) ⟨(HW.out.1.alloc HW.out.1.size _).trans ((chg_setRow _ w2.heap.size _).below (by simp; have := HW.out.1.size; omega) (fun k hk => by have := HW.out.1.size; omega)), (HW.out.2.alloc _).chg (chg_setRow _ w2.heap.size _) (by have := HW.out.2.lt; omega), blk_setRow HB4.out (u32s shaK), HW.out.2.lt⟩ ?_
  intro w3 hw3
  have HW3 := Lib.hid hw3
  have HWB : Hid (w.heap.size < w2.heap.size) := Lib.hid hw3.2.2.2
  clear hw3 HW HB4
  generalize w2.heap.size = B4 at *
  go_loopw [0] (fun v0 wr => ∃ (n : Nat), 64 * n ≤ l.length ∧ Hid (Below w.heap.size w wr ∧ Blk wr w.heap.size 126 (u32s (shaRun shaH l n)) ∧ Blk wr B4 127 (u32s shaK) ∧ Bys wr v0 (l.drop (64 * n)) ∧ (0 < (l.drop (64 * n)).length → ∀ q, v0.ownBlock = some q → q < w.heap.size))) (fun v _ => lenV v)
  case atStart => exact ⟨0, by omega, Lib.hid ⟨HW3.out.1, HW3.out.2.1, HW3.out.2.2.1, HX.out.below HW3.out.1, fun h0 => HX.out.lt h0⟩⟩
  case round =>
    obtain ⟨n, hn, HI⟩ := hrel
    obtain ⟨A0, c0, rfl⟩ := HI.out.2.2.2.1.form
    have HD : Hid ((l.drop (64 * n)).length + 64 * n = l.length) := Lib.hid (by rw [List.length_drop]; omega)
    generalize hDe : l.drop (64 * n) = D at *
    have HDE := Lib.hid hDe
    clear hDe
    by_cases hlt : 64 ≤ D.length
    · obtain ⟨g, o, rfl, -, hg, hc1, hc2, hcells⟩ := HI.out.2.2.2.1.place (by omega)
      have hgw : g < w.heap.size := HI.out.2.2.2.2 (by omega) g rfl
      have HBA : Hid (BysAt wr g o (D.take 64)) := Lib.hid (fun k hk => by
        have hk' : k < D.length := by rw [List.length_take] at hk; omega
        rw [List.getElem_take]; exact hcells k hk')
      clear hcells
      have hlen := shaRun_length shaH l rfl n
      have HR : Hid (shaRun shaH l (n + 1) = mixF shaK (shaRun shaH l n) (D.take 64)) := Lib.hid (by rw [← HDE.out]; rfl)
      generalize shaRun shaH l n = S0 at *
      obtain ⟨a, b, c2, d, e, f, g2, h8, rfl⟩ := eight hlen
      clear hlen
      have q0 := u32_get HI.out.2.1 0 (by simp)
      have q1 := u32_get HI.out.2.1 1 (by simp)
      have q2 := u32_get HI.out.2.1 2 (by simp)
      have q3 := u32_get HI.out.2.1 3 (by simp)
      have q4 := u32_get HI.out.2.1 4 (by simp)
      have q5 := u32_get HI.out.2.1 5 (by simp)
      have q6 := u32_get HI.out.2.1 6 (by simp)
      have q7 := u32_get HI.out.2.1 7 (by simp)
      simp only [List.getD_cons_zero, List.getD_cons_succ] at q0 q1 q2 q3 q4 q5 q6 q7
      have hc64 : (64 : Int) ≤ (c0 : Int) := by omega
      go_wp2
      refine wp_region_still_tail 3 (by kernel_rfl) (by kernel_rfl) ?_
      simp only [List.take_succ_cons, List.take_zero, List.drop_succ_cons, List.drop_zero]
      change wpStill _ _ wr.drew _ _ _
      still_step
      still_step
      still_step
      refine wpStill_nil ?_
      change wpList _ _ _ _ _ wr.drew
      clear q0 q1 q2 q3 q4 q5 q6 q7
      have HV := Lib.hid (And.intro HI.out.1.drew (And.intro HI.out.2.1.drew (And.intro HI.out.2.2.1.drew (show Bys wr.drew (.slice (some ⟨g, o, none⟩) D.length c0) D from HI.out.2.2.2.1))))
      have HBA2 : Hid (BysAt wr.drew g o (D.take 64)) := HBA
      have hg2 : g < wr.drew.heap.size := hg
      clear HBA HI
      generalize wr.drew = wz at *
      go_wp2_with fail
      refine (block_8 a b c2 d e f g2 h8 B4 g o c0 (D.take 64) (by rw [List.length_take]; omega) (by omega) _ hg2 HBA2.out HV.out.2.2.1).mono ?_
      rintro e1 w4 ⟨rfl, h4⟩
      have HM := Lib.hid (mixF_length shaK [a, b, c2, d, e, f, g2, h8] (D.take 64) rfl)
      generalize mixF shaK [a, b, c2, d, e, f, g2, h8] (D.take 64) = M at *
      have HU := Lib.hid (And.intro (HV.out.1.trans (h4.mono HV.out.1.size)) (And.intro (HV.out.2.1.below h4) (And.intro (HV.out.2.2.1.below h4) (HV.out.2.2.2.below h4))))
      clear h4 HV HBA2
      have hB : w.heap.size < B4 := HW3.out.2.2.2
      go_wp2_with (refine wpList_store_row rfl 126 (.tmp 3) (.tmp 20) rfl w.heap.size (u32s M).toArray rfl rfl 126 _ HU.out.2.1 (size_row8 M HM.out) (by simp [u32s, HM.out]) (u32s_one M) ?_)
      go_roundw
      case rel =>
        have hch := chg_setRow w4 w.heap.size (u32s M).toArray
        refine ⟨n + 1, by have := HD.out; omega, Lib.hid ⟨HU.out.1.trans (hch.below HU.out.1.size (fun k hk => by omega)), by rw [HR.out]; exact blk_setRow HU.out.2.1 (u32s M), HU.out.2.2.1.chg hch (by omega), ?_, ?_⟩⟩
        · rw [show 64 * (n + 1) = 64 * n + 64 by omega, ← List.drop_drop, HDE.out]
          by_cases hc : c0 = 64
          · rw [if_pos hc]
            exact Bys.tail_end 64 (by omega)
          · rw [if_neg hc]
            exact Sho.chg (HU.out.2.2.2.tail (by omega) 64 hlt) hch (fun q hq e => by have : g = q := by simpa [Value.ownBlock] using hq
                                                                                      omega)
        · intro _ q hq
          have : g = q := by
            by_cases hc : c0 = 64
            · rw [if_pos hc] at hq; simpa [Value.ownBlock] using hq
            · rw [if_neg hc] at hq; simpa [Value.ownBlock] using hq
          omega
      case measure => simp [lenV]; omega
    · have hD64 : D.length < 64 := by omega
      have hdf : decide ((64 : Int) ≤ (D.length : Int)) = false := by simp; omega
      have hDc : D.length ≤ 1000 := by omega
      have hnn : n ≤ 1000000000000 := by omega
      have HE : Hid (shaRun shaH l n = shaRun shaH (full l) n ∧ (full l).drop (64 * n) = D ++ 128 :: List.replicate (zn l.length) 0 ++ lens l.length 8) := Lib.hid ⟨by unfold full pad; rw [List.append_assoc, shaRun_more _ _ _ _ hn], by
        unfold full pad
        rw [List.append_assoc, List.drop_append_of_le_length hn, HDE.out, List.append_assoc]⟩
      have HV := HI
      clear HI HX HW3
      have hwr : w.heap.size ≤ wr.heap.size := HV.out.1.size
      have hB4 : Hid (B4 < wr.heap.size) := Lib.hid HV.out.2.2.1.lt
      have HNB : Hid (Blk (wr.alloc (.cells #[] 5)) wr.heap.size 5 []) := Lib.hid (Blk.new wr 5 [])
      have hal : Below wr.heap.size wr (wr.alloc (.cells #[] 5)) := (Below.refl _ _).alloc (Nat.le_refl _) _
      have HAL := Lib.hid hal
      have HSZ : Hid (wr.heap.size ≤ (wr.alloc (.cells #[] 5)).heap.size) := Lib.hid hal.size
      have HBD : Hid (Bys (wr.alloc (.cells #[] 5)) (.slice A0 D.length c0) D) := Lib.hid (HV.out.2.2.2.1.below hal)
      clear hal
      go_wp2_with (at_builtin; (first
        | ((refine wpList_append_any rfl (.tmp 23) (.tmp 24) 30 rfl wr.heap.size 5 i0 (.int .u8 0) 1 1 Try.underlying30 hi0 hz0 hz1 hz2 rfl (by decide) _ 0 [] rfl (own_none HNB.out (Nat.le_refl _)) _ D.length (bys D) rfl HBD.out.news (by unfold maxLen; omega) (by omega) HSZ.out ?_); intro v1 W1 hown1 hgrow1
           have HB1 : Hid (Below wr.heap.size wr W1) := Lib.hid (HAL.out.grown hgrow1 HSZ.out (fun k e => by have e' : some wr.heap.size = some k := e; injection e' with e'; omega))
           have HS1 : Hid (wr.heap.size ≤ W1.heap.size) := Lib.hid (Nat.le_trans HSZ.out hgrow1.size)
           have HO1 : Hid (OwnB W1 wr.heap.size v1 D) := Lib.hid (by unfold OwnB; simpa only [Nat.zero_add, List.nil_append] using hown1)
           clear hown1 hgrow1)
        | ((refine wpList_append_any rfl (.tmp 25) (.tmp 26) 30 rfl wr.heap.size 5 i0 (.int .u8 0) 1 1 Try.underlying30 hi0 hz0 hz1 hz2 rfl (by decide) _ D.length (bys D) rfl (World.ownsRow.alloc HO1.out _) _ 1 (bys [128]) rfl (Bys.new W1 [128] 1 rfl (by decide)) (by unfold maxLen; omega) (by omega) (by simp; have := HS1.out; omega) ?_); intro v2 W2 hown2 hgrow2
           have HB2 : Hid (Below wr.heap.size wr W2) := Lib.hid (HB1.out.trans (((Below.refl wr.heap.size W1).alloc HS1.out _).grown hgrow2 (by simp; have := HS1.out; omega) (fun k e => HO1.out.ge e)))
           have HS2 : Hid (wr.heap.size ≤ W2.heap.size) := Lib.hid (Nat.le_trans (by simp; have := HS1.out; omega) hgrow2.size)
           have HO2 : Hid (OwnB W2 wr.heap.size v2 (D ++ [128])) := Lib.hid (OwnB.append rfl hown2)
           clear hown2 hgrow2)))
      obtain ⟨wo, rfl⟩ : ∃ wo : World, wo = wr := ⟨_, rfl⟩
      have HDM : Hid ((l.length : Nat) % 64 = D.length ∧ zn l.length < 64) := Lib.hid ⟨by have := HD.out; omega, by unfold zn; omega⟩
      have HSO : Hid (wo.heap.size ≤ W2.heap.size) := HS2
      go_loopw [6] (fun v6 wr => ∃ (j : Nat) (Q : List UInt8), j ≤ zn l.length ∧ Q.length = D.length + 1 + j ∧ Hid (Q = D ++ 128 :: List.replicate j 0 ∧ True ∧ Below wo.heap.size W2 wr ∧ OwnB wr wo.heap.size v6 Q)) (fun v _ => 200 - lenV v)
      case atStart => exact ⟨0, D ++ [128], Nat.zero_le _, by simp, Lib.hid ⟨rfl, trivial, Below.refl _ _, HO2.out⟩⟩
      case round =>
        obtain ⟨j, Q, hj, hQl, HQ⟩ := hrel
        obtain ⟨A6, c6, rfl⟩ := HQ.out.2.2.2.form
        have hQb : Q.length ≤ 200 := by have := HDM.out.2; omega
        have HQL := Lib.hid hQl
        clear hQl
        by_cases hz : j = zn l.length
        · have hb : ((((Q.length : Nat) : Int) % 64) != 56) = false := by
            have h1 := zn_at l.length
            have h2 := HQL.out
            have h3 := HDM.out.1
            have : ((Q.length : Nat) : Int) % 64 = 56 := by omega
            simp [this]
          have HZ := Lib.hid hz
          clear hz
          go_wp2
          have HQ3 := Lib.hid (show Q = D ++ 128 :: List.replicate (zn l.length) 0 ∧ Below wo.heap.size W2 wr ∧ OwnB wr wo.heap.size (.slice A6 Q.length c6) Q from ⟨by rw [HQ.out.1, HZ.out], HQ.out.2.2.1, HQ.out.2.2.2⟩)
          have HP : Hid (Q.length ≤ 200) := Lib.hid hQb
          clear HQ hb hQb HQL
          generalize hQ0 : Q = Q0 at *
          clear hQ0
          go_loopw [6, 7] (fun v6 v7 wr => ∃ (j : Nat) (Q : List UInt8) (i : Int), v7 = .int .i64 i ∧ (-1 ≤ i ∧ i ≤ 7) ∧ Q.length ≤ 200 + j ∧ Hid (Q = Q0 ++ lens l.length j ∧ i = 7 - (j : Int) ∧ Below wo.heap.size W2 wr ∧ OwnB wr wo.heap.size v6 Q)) (fun _ v _ => (intOf v + 1).toNat)
          case atStart => exact ⟨0, Q0, 7, rfl, by decide, by have := HP.out; omega, Lib.hid ⟨by simp [lens], rfl, HQ3.out.2.1, HQ3.out.2.2⟩⟩
          case round =>
            obtain ⟨j, Q, i, rfl, hi, hQl, HQ⟩ := hrel
            obtain ⟨A6, c6, rfl⟩ := HQ.out.2.2.2.form
            by_cases hi1 : i = -1
            · obtain rfl : j = 8 := by have := HQ.out.2.1; omega
              subst hi1
              have HFQ : Hid ((full l).drop (64 * n) = Q ∧ (full l).length = 64 * n + Q.length ∧ Q.length % 64 = 0) := Lib.hid (by
                have h1 : (full l).drop (64 * n) = Q := by rw [HE.out.2, HQ.out.1, HQ3.out.1]
                have h2 : (full l).length = 64 * n + Q.length := by
                  have := full_length l
                  have h3 := congrArg List.length h1
                  rw [List.length_drop] at h3
                  omega
                have h4 := full_cut l
                exact ⟨h1, h2, by omega⟩)
              have hbw : Below wo.heap.size wo wr := HB2.out.trans HQ.out.2.2.1
              have HR2 := Lib.hid (show Below w.heap.size w wr ∧ Blk wr w.heap.size 126 (u32s (shaRun shaH (full l) n)) ∧ Blk wr B4 127 (u32s shaK) from ⟨HV.out.1.trans (hbw.mono HV.out.1.size), by rw [← HE.out.1]; exact HV.out.2.1.below hbw, HV.out.2.2.1.below hbw⟩)
              have HOQ := Lib.hid HQ.out.2.2.2
              have hwo : w.heap.size < wo.heap.size := HV.out.2.1.lt
              have hQl2 : Q.length ≤ 208 := by omega
              clear HQ hbw HQ3 hi
              go_wp2
              go_loopw [6] (fun v6 wr => ∃ (m : Nat), 64 * m ≤ Q.length ∧ Hid (Below w.heap.size w wr ∧ Blk wr w.heap.size 126 (u32s (shaRun shaH (full l) (n + m))) ∧ Blk wr B4 127 (u32s shaK) ∧ Bys wr v6 (Q.drop (64 * m)) ∧ (∀ q, v6.ownBlock = some q → wo.heap.size ≤ q))) (fun v _ => lenV v)
              case atStart => exact ⟨0, by omega, Lib.hid ⟨HR2.out.1, HR2.out.2.1, HR2.out.2.2, HOQ.out.bys, fun q hq => OwnB.ge HOQ.out hq⟩⟩
              case round =>
                obtain ⟨m, hm, HI⟩ := hrel
                obtain ⟨A6, c6, rfl⟩ := HI.out.2.2.2.1.form
                have HD2 : Hid ((Q.drop (64 * m)).length + 64 * m = Q.length) := Lib.hid (by rw [List.length_drop]; omega)
                generalize hDe : Q.drop (64 * m) = E at *
                have HEE := Lib.hid hDe
                clear hDe
                by_cases hlt : 0 < E.length
                · have hlt0 : (0 : Int) < (E.length : Int) := by omega
                  have hE64 : 64 ≤ E.length := by have := HD2.out; have := HFQ.out.2.2; omega
                  obtain ⟨g, o, rfl, -, hg, hc1, hc2, hcells⟩ := HI.out.2.2.2.1.place (by omega)
                  have hgw : wo.heap.size ≤ g := HI.out.2.2.2.2 g rfl
                  have HBA : Hid (BysAt wr g o (E.take 64)) := Lib.hid (fun k hk => by
                    have hk' : k < E.length := by rw [List.length_take] at hk; omega
                    rw [List.getElem_take]; exact hcells k hk')
                  clear hcells
                  have hlen := shaRun_length shaH (full l) rfl (n + m)
                  have HR : Hid (shaRun shaH (full l) (n + (m + 1)) = mixF shaK (shaRun shaH (full l) (n + m)) (E.take 64)) := Lib.hid (by
                    show mixF shaK (shaRun shaH (full l) (n + m)) (((full l).drop (64 * (n + m))).take 64) = _
                    rw [Nat.mul_add, ← List.drop_drop, HFQ.out.1, HEE.out])
                  generalize shaRun shaH (full l) (n + m) = S0 at *
                  obtain ⟨a, b, c2, d, e, f, g2, h8, rfl⟩ := eight hlen
                  clear hlen
                  have q0 := u32_get HI.out.2.1 0 (by simp)
                  have q1 := u32_get HI.out.2.1 1 (by simp)
                  have q2 := u32_get HI.out.2.1 2 (by simp)
                  have q3 := u32_get HI.out.2.1 3 (by simp)
                  have q4 := u32_get HI.out.2.1 4 (by simp)
                  have q5 := u32_get HI.out.2.1 5 (by simp)
                  have q6 := u32_get HI.out.2.1 6 (by simp)
                  have q7 := u32_get HI.out.2.1 7 (by simp)
                  simp only [List.getD_cons_zero, List.getD_cons_succ] at q0 q1 q2 q3 q4 q5 q6 q7
                  have hc64 : (64 : Int) ≤ (c6 : Int) := by omega
                  go_wp2
                  refine wp_region_still_tail 3 (by kernel_rfl) (by kernel_rfl) ?_
                  simp only [List.take_succ_cons, List.take_zero, List.drop_succ_cons, List.drop_zero]
                  change wpStill _ _ wr.drew _ _ _
                  still_step
                  still_step
                  still_step
                  refine wpStill_nil ?_
                  change wpList _ _ _ _ _ wr.drew
                  clear q0 q1 q2 q3 q4 q5 q6 q7
                  have HV2 := Lib.hid (And.intro HI.out.1.drew (And.intro HI.out.2.1.drew (And.intro HI.out.2.2.1.drew (show Bys wr.drew (.slice (some ⟨g, o, none⟩) E.length c6) E from HI.out.2.2.2.1))))
                  have HBA2 : Hid (BysAt wr.drew g o (E.take 64)) := HBA
                  have hg2 : g < wr.drew.heap.size := hg
                  clear HBA HI
                  generalize wr.drew = wz at *
                  go_wp2_with fail
                  refine (block_8 a b c2 d e f g2 h8 B4 g o c6 (E.take 64) (by rw [List.length_take]; omega) (by omega) _ hg2 HBA2.out HV2.out.2.2.1).mono ?_
                  rintro e1 w4 ⟨rfl, h4⟩
                  have HM := Lib.hid (mixF_length shaK [a, b, c2, d, e, f, g2, h8] (E.take 64) rfl)
                  generalize mixF shaK [a, b, c2, d, e, f, g2, h8] (E.take 64) = M at *
                  have HU := Lib.hid (And.intro (HV2.out.1.trans (h4.mono HV2.out.1.size)) (And.intro (HV2.out.2.1.below h4) (And.intro (HV2.out.2.2.1.below h4) (HV2.out.2.2.2.below h4))))
                  clear h4 HV2 HBA2
                  have hB : w.heap.size < B4 := HWB.out
                  go_wp2_with (refine wpList_store_row rfl 126 (.tmp 3) (.tmp 56) rfl w.heap.size (u32s M).toArray rfl rfl 126 _ HU.out.2.1 (size_row8 M HM.out) (by simp [u32s, HM.out]) (u32s_one M) ?_)
                  go_roundw
                  case rel =>
                    have hch := chg_setRow w4 w.heap.size (u32s M).toArray
                    refine ⟨m + 1, by have := HD2.out; omega, Lib.hid ⟨HU.out.1.trans (hch.below HU.out.1.size (fun k hk => by omega)), by rw [HR.out]; exact blk_setRow HU.out.2.1 (u32s M), HU.out.2.2.1.chg hch (by omega), ?_, ?_⟩⟩
                    · rw [show 64 * (m + 1) = 64 * m + 64 by omega, ← List.drop_drop, HEE.out]
                      by_cases hc : c6 = 64
                      · rw [if_pos hc]
                        exact Bys.tail_end 64 (by omega)
                      · rw [if_neg hc]
                        exact Sho.chg (HU.out.2.2.2.tail (by omega) 64 hE64) hch (fun q hq e => by have : g = q := by simpa [Value.ownBlock] using hq
                                                                                                   omega)
                    · intro q hq
                      have : g = q := by
                        by_cases hc : c6 = 64
                        · rw [if_pos hc] at hq; simpa [Value.ownBlock] using hq
                        · rw [if_neg hc] at hq; simpa [Value.ownBlock] using hq
                      omega
                  case measure => simp [lenV]; omega
                · have hE0 : E.length = 0 := by omega
                  have HS : Hid (shaRun shaH (full l) (n + m) = shaRun shaH (full l) ((full l).length / 64)) := Lib.hid (by
                    have h1 := HD2.out
                    have h2 := HFQ.out.2.1
                    rw [show (full l).length / 64 = n + m by omega])
                  have hbb := HI.out.2.1
                  rw [HS.out] at hbb
                  have HT := Lib.hid (And.intro HI.out.1 hbb)
                  have HL8 := Lib.hid (shaRun_length shaH (full l) rfl ((full l).length / 64))
                  clear hbb HI
                  generalize hSS : shaRun shaH (full l) ((full l).length / 64) = S at *
                  have HSS := Lib.hid hSS
                  clear hSS
                  have hEi : ((E.length : Nat) : Int) = 0 := by omega
                  have HEI := Lib.hid hEi
                  clear hEi
                  have hE1 : ¬ (0 : Int) < (E.length : Int) := by omega
                  obtain ⟨wo2, rfl⟩ : ∃ wo2 : World, wo2 = wr := ⟨_, rfl⟩
                  have hwo2 : w.heap.size < wo2.heap.size := HT.out.2.lt
                  go_wp2
                  go_loopw [8, 9] (fun v8 v9 wr => ∃ (j : Nat), v9 = .int .i64 j ∧ j ≤ 8 ∧ Hid (Below wo2.heap.size wo2 wr ∧ OwnB wr wo2.heap.size v8 (outs S j))) (fun _ v _ => 8 - (intOf v).toNat)
                  case atStart => exact ⟨0, rfl, by decide, Lib.hid ⟨Below.refl _ _, World.ownsRow_nil _ _ _ _⟩⟩
                  case round =>
                    obtain ⟨j, rfl, hj, HJ⟩ := hrel
                    by_cases hlt8 : j < 8
                    · have HBS := Lib.hid ((HT.out.2.chg (Chg.of_below (S := fun _ => False) HJ.out.1) (fun h => h)))
                      have qx := u32_get HBS.out j (by rw [HL8.out]; exact hlt8)
                      have HOS : Hid (outs S (j + 1) = outs S j ++ be4 (S.getD j 0)) := Lib.hid rfl
                      have hol : (outs S j).length ≤ 32 := by rw [outs_length]; omega
                      generalize S.getD j 0 = x at *
                      have e1 : x / 16777216 % 256 = (((ub (x / 16777216)).toNat : Nat) : Int) := (ub_val _).symm
                      have e2 : x / 65536 % 256 = (((ub (x / 65536)).toNat : Nat) : Int) := (ub_val _).symm
                      have e3 : x / 256 % 256 = (((ub (x / 256)).toNat : Nat) : Int) := (ub_val _).symm
                      have e4 : x % 256 = (((ub x).toNat : Nat) : Int) := (ub_val _).symm
                      have f1 : IntKind.u8.wrap (x / 16777216) = (((ub (x / 16777216)).toNat : Nat) : Int) := by rw [IntKind.wrap_u8]; exact (ub_val _).symm
                      have f2 : IntKind.u8.wrap (x / 65536) = (((ub (x / 65536)).toNat : Nat) : Int) := by rw [IntKind.wrap_u8]; exact (ub_val _).symm
                      have f3 : IntKind.u8.wrap (x / 256) = (((ub (x / 256)).toNat : Nat) : Int) := by rw [IntKind.wrap_u8]; exact (ub_val _).symm
                      have f4 : IntKind.u8.wrap x = (((ub x).toNat : Nat) : Int) := by rw [IntKind.wrap_u8]; exact (ub_val _).symm
                      have HBE : Hid (be4 x = [ub (x / 16777216), ub (x / 65536), ub (x / 256), ub x]) := Lib.hid rfl
                      generalize ub (x / 16777216) = b1 at *
                      generalize ub (x / 65536) = b2 at *
                      generalize ub (x / 256) = b3 at *
                      generalize ub x = b4 at *
                      go_wp2
                      go_region_law (first
                        | ((refine step_append_any rfl (.tmp 63) (.tmp 83) 30 rfl wo2.heap.size 5 i0 (.int .u8 0) 1 1 Try.underlying30 hi0 hz0 hz1 hz2 rfl (by decide) _ (outs S j).length (bys (outs S j)) rfl (by first | exact (HJ.out.2).any | exact World.ownsRow.alloc HJ.out.2 _) _ 4 (bys [b1, b2, b3, b4]) rfl (by first | exact Bys.new _ [b1, b2, b3, b4] 4 rfl (by decide) | exact Bys.new_drew _ [b1, b2, b3, b4] 4 rfl (by decide)) (by unfold maxLen; omega) (by omega) (by simp; have := HJ.out.1.size; omega) ?_); intro v2 W9 hown2 hgrow2
                           have HB9 : Hid (Below wo2.heap.size wo2 W9) := Lib.hid (HJ.out.1.trans (by first | exact ((((Below.refl wo2.heap.size wr).drew.alloc HJ.out.1.size _)).grown hgrow2 (by simp; have := HJ.out.1.size; omega) (fun k e => OwnB.ge HJ.out.2 e)) | exact ((((Below.refl wo2.heap.size wr).alloc HJ.out.1.size _).drew).grown hgrow2 (by simp; have := HJ.out.1.size; omega) (fun k e => OwnB.ge HJ.out.2 e))))
                           have HO9 : Hid (OwnB W9 wo2.heap.size v2 (outs S j ++ [b1, b2, b3, b4])) := Lib.hid (OwnB.append rfl hown2)
                           clear hown2 hgrow2))
                      all_goals
                        go_wp2
                        go_roundw
                        case rel => exact ⟨j + 1, by go_num, by omega, Lib.hid ⟨HB9.out, by rw [HOS.out, HBE.out]; exact HO9.out⟩⟩
                        case measure => simp [intOf]; omega
                    · obtain rfl : j = 8 := by omega
                      go_wp2
                      go_ret
                      exact ⟨_, rfl, own_mono' (by have := HJ.out.2; unfold OwnB at *; rw [← HSS.out] at this; exact this) (Nat.le_of_lt hwo2), HT.out.1.trans (HJ.out.1.mono (Nat.le_of_lt hwo2))⟩
            · have hij : j = (7 - i).toNat := by have := HQ.out.2.1; omega
              obtain rfl | rfl | rfl | rfl | rfl | rfl | rfl | rfl : i = 7 ∨ i = 6 ∨ i = 5 ∨ i = 4 ∨ i = 3 ∨ i = 2 ∨ i = 1 ∨ i = 0 := by omega
              all_goals (subst hij; simp only [Int.reduceSub, Int.reduceToNat] at HQ hQl)
              · have eb : (l.length : Int) * 8 / 72057594037927936 = (((ub ((l.length : Int) * 8 / 72057594037927936)).toNat : Nat) : Int) := by rw [ub_val]; omega
                have HL8 : Hid (lens l.length (0 + 1) = lens l.length 0 ++ [ub ((l.length : Int) * 8 / 72057594037927936)]) := Lib.hid (rfl)
                generalize ub ((l.length : Int) * 8 / 72057594037927936) = bb at *
                go_wp2_with (at_builtin; (refine wpList_append_any rfl (.tmp 39) (.tmp 48) 30 rfl wo.heap.size 5 i0 (.int .u8 0) 1 1 Try.underlying30 hi0 hz0 hz1 hz2 rfl (by decide) _ Q.length (bys Q) rfl (World.ownsRow.alloc HQ.out.2.2.2 _) _ 1 (bys [bb]) rfl (Bys.new wr [bb] 1 rfl (by decide)) (by unfold maxLen; omega) (by omega) (by simp; have := HQ.out.2.2.1.size; have := HSO.out; omega) ?_); intro v2 W2 hown2 hgrow2; have HBX : Hid (Below wo.heap.size wr W2) := Lib.hid (((Below.refl wo.heap.size wr).alloc (by have := HQ.out.2.2.1.size; have := HSO.out; omega) _).grown hgrow2 (by simp; have := HQ.out.2.2.1.size; have := HSO.out; omega) (fun k e => OwnB.ge HQ.out.2.2.2 e)); have HOX : Hid (OwnB W2 wo.heap.size v2 (Q ++ [bb])) := Lib.hid (OwnB.append rfl hown2); clear hown2 hgrow2)
                go_roundw
                case rel => exact ⟨0 + 1, _, 7 - 1, rfl, by omega, by rw [List.length_append]; show Q.length + 1 ≤ _; omega, Lib.hid ⟨by rw [HQ.out.1, HL8.out, List.append_assoc], by decide, HQ.out.2.2.1.trans (HBX.out), HOX.out⟩⟩
                case measure => simp [intOf]
              · have eb : (l.length : Int) * 8 / 281474976710656 = (((ub ((l.length : Int) * 8 / 281474976710656)).toNat : Nat) : Int) := by rw [ub_val]; omega
                have HL8 : Hid (lens l.length (1 + 1) = lens l.length 1 ++ [ub ((l.length : Int) * 8 / 281474976710656)]) := Lib.hid (rfl)
                generalize ub ((l.length : Int) * 8 / 281474976710656) = bb at *
                go_wp2_with (at_builtin; (refine wpList_append_any rfl (.tmp 39) (.tmp 48) 30 rfl wo.heap.size 5 i0 (.int .u8 0) 1 1 Try.underlying30 hi0 hz0 hz1 hz2 rfl (by decide) _ Q.length (bys Q) rfl (World.ownsRow.alloc HQ.out.2.2.2 _) _ 1 (bys [bb]) rfl (Bys.new wr [bb] 1 rfl (by decide)) (by unfold maxLen; omega) (by omega) (by simp; have := HQ.out.2.2.1.size; have := HSO.out; omega) ?_); intro v2 W2 hown2 hgrow2; have HBX : Hid (Below wo.heap.size wr W2) := Lib.hid (((Below.refl wo.heap.size wr).alloc (by have := HQ.out.2.2.1.size; have := HSO.out; omega) _).grown hgrow2 (by simp; have := HQ.out.2.2.1.size; have := HSO.out; omega) (fun k e => OwnB.ge HQ.out.2.2.2 e)); have HOX : Hid (OwnB W2 wo.heap.size v2 (Q ++ [bb])) := Lib.hid (OwnB.append rfl hown2); clear hown2 hgrow2)
                go_roundw
                case rel => exact ⟨1 + 1, _, 6 - 1, rfl, by omega, by rw [List.length_append]; show Q.length + 1 ≤ _; omega, Lib.hid ⟨by rw [HQ.out.1, HL8.out, List.append_assoc], by decide, HQ.out.2.2.1.trans (HBX.out), HOX.out⟩⟩
                case measure => simp [intOf]
              · have eb : (l.length : Int) * 8 / 1099511627776 = (((ub ((l.length : Int) * 8 / 1099511627776)).toNat : Nat) : Int) := by rw [ub_val]; omega
                have HL8 : Hid (lens l.length (2 + 1) = lens l.length 2 ++ [ub ((l.length : Int) * 8 / 1099511627776)]) := Lib.hid (rfl)
                generalize ub ((l.length : Int) * 8 / 1099511627776) = bb at *
                go_wp2_with (at_builtin; (refine wpList_append_any rfl (.tmp 39) (.tmp 48) 30 rfl wo.heap.size 5 i0 (.int .u8 0) 1 1 Try.underlying30 hi0 hz0 hz1 hz2 rfl (by decide) _ Q.length (bys Q) rfl (World.ownsRow.alloc HQ.out.2.2.2 _) _ 1 (bys [bb]) rfl (Bys.new wr [bb] 1 rfl (by decide)) (by unfold maxLen; omega) (by omega) (by simp; have := HQ.out.2.2.1.size; have := HSO.out; omega) ?_); intro v2 W2 hown2 hgrow2; have HBX : Hid (Below wo.heap.size wr W2) := Lib.hid (((Below.refl wo.heap.size wr).alloc (by have := HQ.out.2.2.1.size; have := HSO.out; omega) _).grown hgrow2 (by simp; have := HQ.out.2.2.1.size; have := HSO.out; omega) (fun k e => OwnB.ge HQ.out.2.2.2 e)); have HOX : Hid (OwnB W2 wo.heap.size v2 (Q ++ [bb])) := Lib.hid (OwnB.append rfl hown2); clear hown2 hgrow2)
                go_roundw
                case rel => exact ⟨2 + 1, _, 5 - 1, rfl, by omega, by rw [List.length_append]; show Q.length + 1 ≤ _; omega, Lib.hid ⟨by rw [HQ.out.1, HL8.out, List.append_assoc], by decide, HQ.out.2.2.1.trans (HBX.out), HOX.out⟩⟩
                case measure => simp [intOf]
              · have eb : ((l.length : Int) * 8 / 4294967296) % 256 = (((ub ((l.length : Int) * 8 / 4294967296)).toNat : Nat) : Int) := (ub_val _).symm
                have HL8 : Hid (lens l.length (3 + 1) = lens l.length 3 ++ [ub ((l.length : Int) * 8 / 4294967296)]) := Lib.hid (rfl)
                generalize ub ((l.length : Int) * 8 / 4294967296) = bb at *
                go_wp2_with (at_builtin; (refine wpList_append_any rfl (.tmp 39) (.tmp 48) 30 rfl wo.heap.size 5 i0 (.int .u8 0) 1 1 Try.underlying30 hi0 hz0 hz1 hz2 rfl (by decide) _ Q.length (bys Q) rfl (World.ownsRow.alloc HQ.out.2.2.2 _) _ 1 (bys [bb]) rfl (Bys.new wr [bb] 1 rfl (by decide)) (by unfold maxLen; omega) (by omega) (by simp; have := HQ.out.2.2.1.size; have := HSO.out; omega) ?_); intro v2 W2 hown2 hgrow2; have HBX : Hid (Below wo.heap.size wr W2) := Lib.hid (((Below.refl wo.heap.size wr).alloc (by have := HQ.out.2.2.1.size; have := HSO.out; omega) _).grown hgrow2 (by simp; have := HQ.out.2.2.1.size; have := HSO.out; omega) (fun k e => OwnB.ge HQ.out.2.2.2 e)); have HOX : Hid (OwnB W2 wo.heap.size v2 (Q ++ [bb])) := Lib.hid (OwnB.append rfl hown2); clear hown2 hgrow2)
                go_roundw
                case rel => exact ⟨3 + 1, _, 4 - 1, rfl, by omega, by rw [List.length_append]; show Q.length + 1 ≤ _; omega, Lib.hid ⟨by rw [HQ.out.1, HL8.out, List.append_assoc], by decide, HQ.out.2.2.1.trans (HBX.out), HOX.out⟩⟩
                case measure => simp [intOf]
              · have eb : ((l.length : Int) * 8 / 16777216) % 256 = (((ub ((l.length : Int) * 8 / 16777216)).toNat : Nat) : Int) := (ub_val _).symm
                have HL8 : Hid (lens l.length (4 + 1) = lens l.length 4 ++ [ub ((l.length : Int) * 8 / 16777216)]) := Lib.hid (rfl)
                generalize ub ((l.length : Int) * 8 / 16777216) = bb at *
                go_wp2_with (at_builtin; (refine wpList_append_any rfl (.tmp 39) (.tmp 48) 30 rfl wo.heap.size 5 i0 (.int .u8 0) 1 1 Try.underlying30 hi0 hz0 hz1 hz2 rfl (by decide) _ Q.length (bys Q) rfl (World.ownsRow.alloc HQ.out.2.2.2 _) _ 1 (bys [bb]) rfl (Bys.new wr [bb] 1 rfl (by decide)) (by unfold maxLen; omega) (by omega) (by simp; have := HQ.out.2.2.1.size; have := HSO.out; omega) ?_); intro v2 W2 hown2 hgrow2; have HBX : Hid (Below wo.heap.size wr W2) := Lib.hid (((Below.refl wo.heap.size wr).alloc (by have := HQ.out.2.2.1.size; have := HSO.out; omega) _).grown hgrow2 (by simp; have := HQ.out.2.2.1.size; have := HSO.out; omega) (fun k e => OwnB.ge HQ.out.2.2.2 e)); have HOX : Hid (OwnB W2 wo.heap.size v2 (Q ++ [bb])) := Lib.hid (OwnB.append rfl hown2); clear hown2 hgrow2)
                go_roundw
                case rel => exact ⟨4 + 1, _, 3 - 1, rfl, by omega, by rw [List.length_append]; show Q.length + 1 ≤ _; omega, Lib.hid ⟨by rw [HQ.out.1, HL8.out, List.append_assoc], by decide, HQ.out.2.2.1.trans (HBX.out), HOX.out⟩⟩
                case measure => simp [intOf]
              · have eb : ((l.length : Int) * 8 / 65536) % 256 = (((ub ((l.length : Int) * 8 / 65536)).toNat : Nat) : Int) := (ub_val _).symm
                have HL8 : Hid (lens l.length (5 + 1) = lens l.length 5 ++ [ub ((l.length : Int) * 8 / 65536)]) := Lib.hid (rfl)
                generalize ub ((l.length : Int) * 8 / 65536) = bb at *
                go_wp2_with (at_builtin; (refine wpList_append_any rfl (.tmp 39) (.tmp 48) 30 rfl wo.heap.size 5 i0 (.int .u8 0) 1 1 Try.underlying30 hi0 hz0 hz1 hz2 rfl (by decide) _ Q.length (bys Q) rfl (World.ownsRow.alloc HQ.out.2.2.2 _) _ 1 (bys [bb]) rfl (Bys.new wr [bb] 1 rfl (by decide)) (by unfold maxLen; omega) (by omega) (by simp; have := HQ.out.2.2.1.size; have := HSO.out; omega) ?_); intro v2 W2 hown2 hgrow2; have HBX : Hid (Below wo.heap.size wr W2) := Lib.hid (((Below.refl wo.heap.size wr).alloc (by have := HQ.out.2.2.1.size; have := HSO.out; omega) _).grown hgrow2 (by simp; have := HQ.out.2.2.1.size; have := HSO.out; omega) (fun k e => OwnB.ge HQ.out.2.2.2 e)); have HOX : Hid (OwnB W2 wo.heap.size v2 (Q ++ [bb])) := Lib.hid (OwnB.append rfl hown2); clear hown2 hgrow2)
                go_roundw
                case rel => exact ⟨5 + 1, _, 2 - 1, rfl, by omega, by rw [List.length_append]; show Q.length + 1 ≤ _; omega, Lib.hid ⟨by rw [HQ.out.1, HL8.out, List.append_assoc], by decide, HQ.out.2.2.1.trans (HBX.out), HOX.out⟩⟩
                case measure => simp [intOf]
              · have eb : ((l.length : Int) * 8 / 256) % 256 = (((ub ((l.length : Int) * 8 / 256)).toNat : Nat) : Int) := (ub_val _).symm
                have HL8 : Hid (lens l.length (6 + 1) = lens l.length 6 ++ [ub ((l.length : Int) * 8 / 256)]) := Lib.hid (rfl)
                generalize ub ((l.length : Int) * 8 / 256) = bb at *
                go_wp2_with (at_builtin; (refine wpList_append_any rfl (.tmp 39) (.tmp 48) 30 rfl wo.heap.size 5 i0 (.int .u8 0) 1 1 Try.underlying30 hi0 hz0 hz1 hz2 rfl (by decide) _ Q.length (bys Q) rfl (World.ownsRow.alloc HQ.out.2.2.2 _) _ 1 (bys [bb]) rfl (Bys.new wr [bb] 1 rfl (by decide)) (by unfold maxLen; omega) (by omega) (by simp; have := HQ.out.2.2.1.size; have := HSO.out; omega) ?_); intro v2 W2 hown2 hgrow2; have HBX : Hid (Below wo.heap.size wr W2) := Lib.hid (((Below.refl wo.heap.size wr).alloc (by have := HQ.out.2.2.1.size; have := HSO.out; omega) _).grown hgrow2 (by simp; have := HQ.out.2.2.1.size; have := HSO.out; omega) (fun k e => OwnB.ge HQ.out.2.2.2 e)); have HOX : Hid (OwnB W2 wo.heap.size v2 (Q ++ [bb])) := Lib.hid (OwnB.append rfl hown2); clear hown2 hgrow2)
                go_roundw
                case rel => exact ⟨6 + 1, _, 1 - 1, rfl, by omega, by rw [List.length_append]; show Q.length + 1 ≤ _; omega, Lib.hid ⟨by rw [HQ.out.1, HL8.out, List.append_assoc], by decide, HQ.out.2.2.1.trans (HBX.out), HOX.out⟩⟩
                case measure => simp [intOf]
              · have eb : ((l.length : Int) * 8) % 256 = (((ub ((l.length : Int) * 8)).toNat : Nat) : Int) := (ub_val _).symm
                have HL8 : Hid (lens l.length (7 + 1) = lens l.length 7 ++ [ub ((l.length : Int) * 8)]) := Lib.hid (by rw [show (l.length : Int) * 8 = (l.length : Int) * 8 / ((2 ^ (8 * (7 - 7)) : Nat) : Int) by simp]; rfl)
                generalize ub ((l.length : Int) * 8) = bb at *
                go_wp2_with (at_builtin; (refine wpList_append_any rfl (.tmp 39) (.tmp 48) 30 rfl wo.heap.size 5 i0 (.int .u8 0) 1 1 Try.underlying30 hi0 hz0 hz1 hz2 rfl (by decide) _ Q.length (bys Q) rfl (World.ownsRow.alloc HQ.out.2.2.2 _) _ 1 (bys [bb]) rfl (Bys.new wr [bb] 1 rfl (by decide)) (by unfold maxLen; omega) (by omega) (by simp; have := HQ.out.2.2.1.size; have := HSO.out; omega) ?_); intro v2 W2 hown2 hgrow2; have HBX : Hid (Below wo.heap.size wr W2) := Lib.hid (((Below.refl wo.heap.size wr).alloc (by have := HQ.out.2.2.1.size; have := HSO.out; omega) _).grown hgrow2 (by simp; have := HQ.out.2.2.1.size; have := HSO.out; omega) (fun k e => OwnB.ge HQ.out.2.2.2 e)); have HOX : Hid (OwnB W2 wo.heap.size v2 (Q ++ [bb])) := Lib.hid (OwnB.append rfl hown2); clear hown2 hgrow2)
                go_roundw
                case rel => exact ⟨7 + 1, _, 0 - 1, rfl, by omega, by rw [List.length_append]; show Q.length + 1 ≤ _; omega, Lib.hid ⟨by rw [HQ.out.1, HL8.out, List.append_assoc], by decide, HQ.out.2.2.1.trans (HBX.out), HOX.out⟩⟩
                case measure => simp [intOf]
        · have hb : ((((Q.length : Nat) : Int) % 64) != 56) = true := by
            have h2 := HQL.out
            have h3 := HDM.out.1
            have h4 : (l.length + 1 + j) % 64 ≠ 56 := fun h => hz (zn_first _ _ h hj)
            have : ((Q.length : Nat) : Int) % 64 ≠ 56 := by omega
            simp [this]
          have HZ := Lib.hid hz
          clear hz
          go_wp2_with (at_builtin; (refine wpList_append_any rfl (.tmp 32) (.tmp 33) 30 rfl wo.heap.size 5 i0 (.int .u8 0) 1 1 Try.underlying30 hi0 hz0 hz1 hz2 rfl (by decide) _ Q.length (bys Q) rfl (World.ownsRow.alloc HQ.out.2.2.2 _) _ 1 (bys [0]) rfl (Bys.new wr [0] 1 rfl (by decide)) (by unfold maxLen; omega) (by omega) (by simp; have := HQ.out.2.2.1.size; have := HSO.out; omega) ?_); intro v3 W3 hown3 hgrow3; have HBX : Hid (Below wo.heap.size wr W3) := Lib.hid (((Below.refl wo.heap.size wr).alloc (by have := HQ.out.2.2.1.size; have := HSO.out; omega) _).grown hgrow3 (by simp; have := HQ.out.2.2.1.size; have := HSO.out; omega) (fun k e => OwnB.ge HQ.out.2.2.2 e)); have HOX : Hid (OwnB W3 wo.heap.size v3 (Q ++ [0])) := Lib.hid (OwnB.append rfl hown3); clear hown3 hgrow3)
          obtain ⟨A3, c3, rfl⟩ := HOX.out.form
          go_roundw
          case rel => exact ⟨j + 1, Q ++ [0], by have := HZ.out; omega, by rw [List.length_append]; have := HQL.out; simp; omega, Lib.hid ⟨by rw [HQ.out.1, List.append_assoc, List.cons_append, ← List.replicate_succ'], trivial, HQ.out.2.2.1.trans HBX.out, HOX.out⟩⟩
          case measure => simp [lenV]; have := HQL.out; have := HDM.out.2; omega
end Go.Proofs.Ytlkgeifmppadmaa
namespace Go.Proofs.Ytlkgeifmppadmaa
open Go.RowKit
set_option linter.unusedVariables false

/-- The slice v shows the texts ls. -/
def Rws (w : World) (v : Value) (ls : List (List UInt8)) : Prop := ∃ us : List Value, Sho w v ls.length 1 us ∧ ∀ i (h : i < ls.length), ∃ u, us[i]? = some u ∧ Bys w u ls[i]
namespace Rws
variable {w w1 : World} {v : Value} {ls : List (List UInt8)}
theorem form (h : Rws w v ls) : ∃ A c, v = .slice A ls.length c := by
  obtain ⟨us, h1, _⟩ := h
  exact h1.form
theorem below (h : Rws w v ls) (hb : Below w.heap.size w w1) : Rws w1 v ls := by
  obtain ⟨us, h1, h2⟩ := h
  exact ⟨us, h1.below hb, fun i hi => by obtain ⟨u, e, hu⟩ := h2 i hi; exact ⟨u, e, hu.below hb⟩⟩
/-- One of them. -/
theorem at' {A : Option Addr} {n c : Nat} (h : Rws w (.slice A n c) ls) (i : Nat) (hi : i < ls.length) : ∃ g o u, A = some ⟨g, o, none⟩ ∧ g < w.heap.size ∧ n = ls.length ∧ ls.length ≤ c ∧ w.cell? ⟨g, o + i, none⟩ = some u ∧ Bys w u ls[i] := by
  obtain ⟨us, h1, h2⟩ := h
  obtain ⟨u, e, hu⟩ := h2 i hi
  obtain ⟨g, o, e1, e2, h3, h4, _, h5⟩ := h1.place (by omega)
  exact ⟨g, o, u, e1, h3, e2, h4, h5 i u e, hu⟩
/-- A new block that holds texts. -/
theorem new (w : World) (t : TypeId) (us : List Value) (ls : List (List UInt8)) (n c : Nat) (hn : ls.length = n) (hl : us.length = ls.length) (hc : n ≤ c) (hm : c ≤ maxLen) (h : ∀ i u (hi : i < ls.length), us[i]? = some u → Bys w u ls[i]) : Rws (w.alloc (.cells us.toArray t)) (.slice (some ⟨w.heap.size, 0, none⟩) n c) ls := by
  subst hn
  refine ⟨us, Sho.new w t us ls.length 1 c (by omega) hc hm, fun i hi => ?_⟩
  have hi' : i < us.length := by omega
  exact ⟨us[i], List.getElem?_eq_getElem hi', (h i us[i] hi (List.getElem?_eq_getElem hi')).below ((Below.refl _ _).alloc (Nat.le_refl _) _)⟩
theorem nil (w : World) : Rws w (.slice none 0 0) [] := ⟨[], Sho.nil w 1, fun i hi => absurd hi (Nat.not_lt_zero _)⟩
end Rws
theorem new1 {w : World} (t : TypeId) {b : Nat} (hb : w.heap.size = b) {u : Value} {l : List UInt8} (h : Bys w u l) : Rws (w.alloc (.cells #[u] t)) (.slice (some ⟨b, 0, none⟩) 1 1) [l] := hb ▸
  Rws.new w t [u] [l] 1 1 rfl rfl (Nat.le_refl _) (by decide) (fun i x hi hx => by
    obtain rfl : i = 0 := by simpa using hi
    simp at hx; subst hx; exact h)
theorem new2 {w : World} (t : TypeId) {b : Nat} (hb : w.heap.size = b) {u u' : Value} {l l' : List UInt8} (h : Bys w u l) (h' : Bys w u' l') : Rws (w.alloc (.cells #[u, u'] t)) (.slice (some ⟨b, 0, none⟩) 2 2) [l, l'] := hb ▸
  Rws.new w t [u, u'] [l, l'] 2 2 rfl rfl (Nat.le_refl _) (by decide) (fun i x hi hx => by
    obtain rfl | rfl : i = 0 ∨ i = 1 := by simp at hi; omega
    · simp at hx; subst hx; exact h
    · simp at hx; subst hx; exact h')
theorem new3 {w : World} (t : TypeId) {b : Nat} (hb : w.heap.size = b) {u u' u'' : Value} {l l' l'' : List UInt8} (h : Bys w u l) (h' : Bys w u' l') (h'' : Bys w u'' l'') : Rws (w.alloc (.cells #[u, u', u''] t)) (.slice (some ⟨b, 0, none⟩) 3 3) [l, l', l''] := hb ▸
  Rws.new w t [u, u', u''] [l, l', l''] 3 3 rfl rfl (Nat.le_refl _) (by decide) (fun i x hi hx => by
    obtain rfl | rfl | rfl : i = 0 ∨ i = 1 ∨ i = 2 := by simp at hi; omega
    · simp at hx; subst hx; exact h
    · simp at hx; subst hx; exact h'
    · simp at hx; subst hx; exact h'')
/-- A row of one's own, of texts. -/
def OwnR (w : World) (base : Nat) (v : Value) (ls : List (List UInt8)) : Prop :=
  ∃ us, w.ownsRow base 30 1 v ls.length us ∧ ∀ i (h : i < ls.length), ∃ u, us[i]? = some u ∧ Bys w u ls[i] ∧ (0 < ls[i].length → u.ownBlock ≠ v.ownBlock ∧ ∀ g, u.ownBlock = some g → base ≤ g)
theorem OwnR.nil (w : World) (base : Nat) : OwnR w base (.slice none 0 0) [] := ⟨[], World.ownsRow_nil _ _ _ _, fun i h => absurd h (Nat.not_lt_zero _)⟩
theorem OwnR.rws {w : World} {base : Nat} {v : Value} {ls : List (List UInt8)} (h : OwnR w base v ls) : Rws w v ls := by
  obtain ⟨us, h1, h2⟩ := h
  exact ⟨us, Sho.own h1, fun i hi => by obtain ⟨u, e, hu, _⟩ := h2 i hi; exact ⟨u, e, hu⟩⟩
theorem OwnR.ge {w : World} {base : Nat} {v : Value} {ls : List (List UInt8)} (h : OwnR w base v ls) {j : Nat} (e : v.ownBlock = some j) : base ≤ j := by
  obtain ⟨us, h1, _⟩ := h
  exact (World.ownsRow.lt h1 j e).1
theorem OwnR.lt {w : World} {base : Nat} {v : Value} {ls : List (List UInt8)} (h : OwnR w base v ls) {j : Nat} (e : v.ownBlock = some j) : j < w.heap.size := by
  obtain ⟨us, h1, _⟩ := h
  exact (World.ownsRow.lt h1 j e).2
theorem OwnR.keep {w w1 : World} {base : Nat} {v : Value} {ls : List (List UInt8)} (h : OwnR w base v ls) (hb : Below w.heap.size w w1) : OwnR w1 base v ls := by
  obtain ⟨us, h1, h2⟩ := h
  exact ⟨us, ownsRow_chg h1 (Chg.of_below (S := fun _ => False) hb) (fun _ _ h => h), fun i hi => by obtain ⟨u, e, hu, hn⟩ := h2 i hi; exact ⟨u, e, hu.below hb, hn⟩⟩
theorem OwnR.mono {w : World} {b b' : Nat} {v : Value} {ls : List (List UInt8)} (h : OwnR w b v ls) (hb : b' ≤ b) : OwnR w b' v ls := by
  obtain ⟨us, h1, h2⟩ := h
  exact ⟨us, own_mono' h1 hb, fun i hi => by obtain ⟨u, e, hu, hn⟩ := h2 i hi; exact ⟨u, e, hu, fun h => ⟨(hn h).1, fun g hg => Nat.le_trans hb ((hn h).2 g hg)⟩⟩⟩
/-- One text more. -/
theorem OwnR.push {w W : World} {base g cap : Nat} {v u : Value} {ls : List (List UInt8)} {l : List UInt8} {us : List Value} {t : TypeId} {cs : Array Value}
    (h1 : ∀ i (h : i < ls.length), ∃ u, us[i]? = some u ∧ Bys w u ls[i] ∧ (0 < ls[i].length → u.ownBlock ≠ v.ownBlock ∧ ∀ g, u.ownBlock = some g → base ≤ g)) (hl : us.length = ls.length)
    (hu : Bys w u l) (hun : 0 < l.length → u.ownBlock ≠ v.ownBlock ∧ ∀ g, u.ownBlock = some g → base ≤ g)
    (ho : W.ownsRow base 30 1 (.slice (some ⟨g, 0, none⟩) (ls.length + 1) cap) (ls.length + 1) (us ++ [u])) (hg : (w.alloc (.cells cs t)).grownBy W v.ownBlock) (hlie : v.ownBlock = some g ∨ g = w.heap.size + 1) :
    OwnR W base (.slice (some ⟨g, 0, none⟩) (ls.length + 1) cap) (ls ++ [l]) := by
  have keep : ∀ (x : Value) (m : List UInt8), Bys w x m → (0 < m.length → x.ownBlock ≠ v.ownBlock ∧ ∀ g, x.ownBlock = some g → base ≤ g) → Bys W x m ∧ (0 < m.length → x.ownBlock ≠ some g ∧ ∀ g, x.ownBlock = some g → base ≤ g) := by
    intro x m hx hn
    have hx1 : Bys (w.alloc (.cells cs t)) x m := hx.below ((Below.refl _ _).alloc (Nat.le_refl _) _)
    rcases Nat.eq_zero_or_pos m.length with h0 | h0
    · have hm : m = [] := List.length_eq_zero_iff.1 h0
      subst hm
      obtain ⟨A, c, rfl⟩ := hx.form
      exact ⟨Sho.empty W 1 A c, fun h => absurd h (Nat.lt_irrefl _)⟩
    · refine ⟨Sho.grown hx1 hg (fun q hq e => (hn h0).1 (by rw [hq, ← e])), fun _ => ⟨fun e => ?_, (hn h0).2⟩⟩
      rcases hlie with hlie | hlie
      · exact (hn h0).1 (by rw [e, hlie])
      · have := hx.lt h0 g e
        omega
  refine ⟨us ++ [u], by rw [List.length_append]; exact ho, fun i hi => ?_⟩
  by_cases hi' : i < ls.length
  · obtain ⟨x, e, hx, hn⟩ := h1 i hi'
    obtain ⟨k1, k2⟩ := keep x ls[i] hx hn
    refine ⟨x, by rw [List.getElem?_append_left (by omega)]; exact e, ?_, ?_⟩
    · rw [List.getElem_append_left hi']; exact k1
    · rw [List.getElem_append_left hi']; exact k2
  · have : i = ls.length := by simp at hi; omega
    subst this
    obtain ⟨k1, k2⟩ := keep u l hu hun
    refine ⟨u, by rw [List.getElem?_append_right (by omega), hl]; simp, ?_, ?_⟩
    · rw [List.getElem_append_right (Nat.le_refl _)]; simpa using k1
    · intro h0
      exact k2 (by rw [List.getElem_append_right (Nat.le_refl _)] at h0; simpa using h0)
/-- Texts whose blocks meet S. -/
def RwsF (S : Nat → Prop) (w : World) (v : Value) (ls : List (List UInt8)) : Prop :=
  ∃ us, Sho w v ls.length 1 us ∧ (0 < ls.length → ∀ g, v.ownBlock = some g → S g) ∧ ∀ i (h : i < ls.length), ∃ u, us[i]? = some u ∧ Bys w u ls[i] ∧ (0 < ls[i].length → ∀ g, u.ownBlock = some g → S g)
theorem RwsF.rws {S : Nat → Prop} {w : World} {v : Value} {ls : List (List UInt8)} (h : RwsF S w v ls) : Rws w v ls := by
  obtain ⟨us, h1, _, h2⟩ := h
  exact ⟨us, h1, fun i hi => by obtain ⟨u, e, hu, _⟩ := h2 i hi; exact ⟨u, e, hu⟩⟩
theorem Sho.chgF {S T : Nat → Prop} {w w1 : World} {v : Value} {n k : Nat} {cs : List Value} (h : Sho w v n k cs) (hf : 0 < n → ∀ g, v.ownBlock = some g → S g) (hc : Chg w w1 T) (hS : ∀ g, S g → ¬ T g) : Sho w1 v n k cs := by
  rcases Nat.eq_zero_or_pos n with h0 | h0
  · subst h0
    obtain ⟨A, c, rfl⟩ := h.form
    have : cs = [] := List.length_eq_zero_iff.1 (by simpa using h.1)
    subst this
    exact Sho.empty w1 k A c
  · exact h.chg hc (fun g hg => hS g (hf h0 g hg))
theorem RwsF.chg {S T : Nat → Prop} {w w1 : World} {v : Value} {ls : List (List UInt8)} (h : RwsF S w v ls) (hc : Chg w w1 T) (hS : ∀ g, S g → ¬ T g) : RwsF S w1 v ls := by
  obtain ⟨us, h1, hf, h2⟩ := h
  exact ⟨us, h1.chgF hf hc hS, hf, fun i hi => by obtain ⟨u, e, hu, hn⟩ := h2 i hi; exact ⟨u, e, Sho.chgF hu hn hc hS, hn⟩⟩
theorem RwsF.mono {S T : Nat → Prop} {w : World} {v : Value} {ls : List (List UInt8)} (h : RwsF S w v ls) (hS : ∀ g, S g → T g) : RwsF T w v ls := by
  obtain ⟨us, h1, hf, h2⟩ := h
  exact ⟨us, h1, fun h0 g hg => hS g (hf h0 g hg), fun i hi => by obtain ⟨u, e, hu, hn⟩ := h2 i hi; exact ⟨u, e, hu, fun h0 g hg => hS g (hn h0 g hg)⟩⟩
theorem OwnR.foot {w : World} {base : Nat} {v : Value} {ls : List (List UInt8)} (h : OwnR w base v ls) : RwsF (fun g => base ≤ g ∧ g < w.heap.size) w v ls := by
  have h' := h
  obtain ⟨us, h1, h2⟩ := h
  refine ⟨us, Sho.own h1, fun _ g hg => ⟨h'.ge hg, h'.lt hg⟩, fun i hi => ?_⟩
  obtain ⟨u, e, hu, hn⟩ := h2 i hi
  exact ⟨u, e, hu, fun h0 g hg => ⟨(hn h0).2 g hg, Sho.lt hu h0 g hg⟩⟩
theorem info_bytes : (Try.prog.info? 30).map (fun i => (i.zero, i.size, i.bytes)) = some (some (.slice none 0 0), 1, 24) := by kernel_rfl
theorem flat_take (ls : List (List UInt8)) (k : Nat) (h : k < ls.length) : (ls.take (k + 1)).flatten = (ls.take k).flatten ++ ls[k] := by
  rw [List.take_succ_eq_append_getElem h, List.flatten_append, List.flatten_cons, List.flatten_nil, List.append_nil]
theorem flat_le (ls : List (List UInt8)) (k : Nat) : (ls.take k).flatten.length ≤ ls.flatten.length := by
  conv => rhs; rw [← List.take_append_drop k ls, List.flatten_append, List.length_append]
  omega
/-- The hash of a tag and texts. -/
theorem bys_u8 (b : UInt8) (t : Int) (h : ((b.toNat : Nat) : Int) = t) : bys [b] = [.int .u8 t] := by subst h; rfl
end Go.Proofs.Ytlkgeifmppadmaa
namespace Go.Proofs.Ytlkgeifmppadmaa
open Go.RowKit
set_option linter.unusedVariables false
set_option linter.unusedSimpArgs false

def tagH (b : UInt8) (ls : List (List UInt8)) : List UInt8 := sha (b :: ls.flatten)
theorem tagH_length (b : UInt8) (ls : List (List UInt8)) : (tagH b ls).length = 32 := sha_length _
set_option maxRecDepth 100000 in
set_option maxHeartbeats 1000000 in
theorem rtag_any (t : Int) (b : UInt8) (hb : ((b.toNat : Nat) : Int) = t) (v : Value) (ls : List (List UInt8)) (hsm : ls.flatten.length ≤ 100000000000) (hls : ls.length ≤ 100000000000) (w : World) (hx : Rws w v ls) :
    Calls Try.prog 30 #[.int .u8 t, v] w fun e w' => ∃ v', e = .returned v' ∧ OwnB w' w.heap.size v' (tagH b ls) ∧ Below w.heap.size w w' := by
  obtain ⟨i0, hi0, hz0, hz1, hz2⟩ := info_parts info_u8
  obtain ⟨A, c, rfl⟩ := hx.form
  have HX := Lib.hid (And.intro hx (bys_u8 b t hb))
  clear hx hb
  go_enter Try.func30, Try.ntmps30
  go_wp2
  go_loopw [5, 6] (fun v5 v6 wr => ∃ k : Nat, v6 = .int .i64 k ∧ k ≤ ls.length ∧ Hid (Below w.heap.size w wr ∧ OwnB wr w.heap.size v5 (b :: (ls.take k).flatten))) (fun _ v _ => ls.length - (intOf v).toNat)
  case atStart => exact ⟨0, rfl, Nat.zero_le _, Lib.hid ⟨(Below.refl _ _).alloc (Nat.le_refl _) _, by
    have := own_new (w := w) (base := w.heap.size) (size := 1) (n := 1) 5 [.int .u8 t] rfl (by decide) (Nat.le_refl _)
    show World.ownsRow _ _ _ _ _ 1 (bys [b])
    rw [HX.out.2]
    exact this⟩⟩
  case round =>
    obtain ⟨k, rfl, hk, HI⟩ := hrel
    have hlen : (b :: (ls.take k).flatten).length ≤ 100000000001 := by have := flat_le ls k; simp only [List.length_cons]; omega
    by_cases hlt : k < ls.length
    · obtain ⟨g, o, u, rfl, hg, -, -, hcu, hbu⟩ := HX.out.1.at' k hlt
      have p0 := (HI.out.1.cell (p := ⟨g, o + k, none⟩) hg).trans hcu
      have HU := Lib.hid (hbu.below HI.out.1)
      have HT := Lib.hid (flat_take ls k hlt)
      have hlk : (b :: (ls.take k).flatten).length + ls[k].length ≤ 100000000001 := by have := flat_le ls (k + 1); rw [HT.out, List.length_append] at this; simp only [List.length_cons]; omega
      generalize ls[k] = x at *
      generalize (ls.take k).flatten = D at *
      have hsz := HI.out.1.size
      clear hcu hbu
      go_wp2_with (at_builtin; (refine wpList_append_any rfl (.tmp 15) (.tmp 19) 30 rfl w.heap.size 5 i0 (.int .u8 0) 1 1 Try.underlying30 hi0 hz0 hz1 hz2 rfl (by decide) _ _ _ rfl HI.out.2.any _ x.length (bys x) rfl HU.out.news (by unfold maxLen; omega) (by omega) hsz ?_); intro v2 W2 hown2 hgrow2; have HB2 : Hid (Below w.heap.size w W2) := Lib.hid (HI.out.1.grown hgrow2 hsz (fun k e => OwnB.ge HI.out.2 e)); have HO2 : Hid (OwnB W2 w.heap.size v2 ((b :: D) ++ x)) := Lib.hid (OwnB.append rfl hown2); clear hown2 hgrow2)
      go_roundw
      case rel => exact ⟨k + 1, by go_num, by omega, Lib.hid ⟨HB2.out, by rw [HT.out]; exact HO2.out⟩⟩
      case measure => simp [intOf]; omega
    · obtain rfl : k = ls.length := by omega
      have HO := HI.out.2
      rw [List.take_length] at HO
      have HO2 := Lib.hid HO
      have hlen2 : (b :: ls.flatten).length ≤ 1000000000000 := by simp only [List.length_cons]; omega
      clear HO
      have HB := Lib.hid HI.out.1
      clear HI
      go_wp2_with fail
      refine (rsum_any _ (b :: ls.flatten) hlen2 wr HO2.out.bys).mono ?_
      rintro e w2 ⟨v', rfl, h1, h2⟩
      have HF := Lib.hid (And.intro h1 h2)
      clear h1 h2
      go_wp2
      go_ret
      exact ⟨_, rfl, own_mono' HF.out.1 HB.out.size, HB.out.trans (HF.out.2.mono HB.out.size)⟩
end Go.Proofs.Ytlkgeifmppadmaa
namespace Go.Proofs.Ytlkgeifmppadmaa
open Go.RowKit
set_option linter.unusedVariables false
set_option linter.unusedSimpArgs false

/-- A call that gives bytes of its own, and turns nothing. -/
def RetB (w : World) (l : List UInt8) (e : Ending) (w' : World) : Prop := ∃ v', e = .returned v' ∧ OwnB w' w.heap.size v' l ∧ Below w.heap.size w w'

set_option maxRecDepth 100000 in
theorem rnum_any (base : Nat) (v : Value) (l : List UInt8) (n : Int) (hsm : l.length ≤ 1000000000000) (w : World) (hb : base ≤ w.heap.size) (ho : OwnB w base v l) :
    Calls Try.prog 69 #[v, .int .u32 n] w fun e w' => ∃ v', e = .returned v' ∧ OwnB w' base v' (l ++ be4 n) ∧ Below base w w' ∧ Chg w w' (fun k => v.ownBlock = some k) := by
  obtain ⟨i0, hi0, hz0, hz1, hz2⟩ := info_parts info_u8
  have HO := Lib.hid ho
  clear ho
  have e1 : n / 16777216 % 256 = (((ub (n / 16777216)).toNat : Nat) : Int) := (ub_val _).symm
  have e2 : n / 65536 % 256 = (((ub (n / 65536)).toNat : Nat) : Int) := (ub_val _).symm
  have e3 : n / 256 % 256 = (((ub (n / 256)).toNat : Nat) : Int) := (ub_val _).symm
  have e4 : n % 256 = (((ub n).toNat : Nat) : Int) := (ub_val _).symm
  have HBE : Hid (be4 n = [ub (n / 16777216), ub (n / 65536), ub (n / 256), ub n]) := Lib.hid rfl
  generalize ub (n / 16777216) = b1 at *
  generalize ub (n / 65536) = b2 at *
  generalize ub (n / 256) = b3 at *
  generalize ub n = b4 at *
  generalize hbe : be4 n = B at *
  go_enter Try.func69, Try.ntmps69
  go_wp2_with (at_builtin; (refine wpList_append_any rfl (.tmp 5) (.tmp 17) 30 rfl base 5 i0 (.int .u8 0) 1 1 Try.underlying30 hi0 hz0 hz1 hz2 rfl (by decide) _ _ _ rfl (World.ownsRow.alloc HO.out _) _ 4 (bys [b1, b2, b3, b4]) rfl (Bys.new w [b1, b2, b3, b4] 4 rfl (by decide)) (by unfold maxLen; omega) (by omega) (by simp; omega) ?_); intro v2 W2 hown2 hgrow2; have HB2 : Hid (Below base w W2) := Lib.hid (((Below.refl base w).alloc hb _).grown hgrow2 (by simp; omega) (fun k e => OwnB.ge HO.out e)); have HC2 : Hid (Chg w W2 (fun k => v.ownBlock = some k)) := Lib.hid (((Chg.refl w _).alloc _).trans (Chg.of_grown hgrow2) (fun i _ h => h.symm)); have HO2 : Hid (OwnB W2 base v2 (l ++ [b1, b2, b3, b4])) := Lib.hid (OwnB.append rfl hown2); clear hown2 hgrow2)
  go_ret
  exact ⟨_, rfl, by rw [HBE.out]; exact HO2.out, HB2.out, HC2.out⟩

def secretS (seed : List UInt8) (key bit side : Int) : List UInt8 := tagH 10 [seed, be4 key, [ub bit, ub side]]
def shownS (seed : List UInt8) (key bit side : Int) : List UInt8 := tagH 11 [secretS seed key bit side]
theorem secretS_length (seed : List UInt8) (key bit side : Int) : (secretS seed key bit side).length = 32 := tagH_length _ _
theorem shownS_length (seed : List UInt8) (key bit side : Int) : (shownS seed key bit side).length = 32 := tagH_length _ _
theorem be4_length (n : Int) : (be4 n).length = 4 := rfl

set_option maxRecDepth 100000 in
set_option maxHeartbeats 1000000 in
theorem rsecret_any (v : Value) (seed : List UInt8) (key bit side : Int) (hk : 0 ≤ key ∧ key < 1000) (hb : 0 ≤ bit ∧ bit < 256) (hs : 0 ≤ side ∧ side < 256) (hsm : seed.length ≤ 1000000000) (w : World) (hx : Bys w v seed) :
    Calls Try.prog 68 #[v, .int .i64 key, .int .i64 bit, .int .i64 side] w (RetB w (secretS seed key bit side)) := by
  obtain ⟨A, c, rfl⟩ := hx.form
  have HX := Lib.hid hx
  clear hx
  have HSS : Hid (secretS seed key bit side = tagH 10 [seed, be4 key, [ub bit, ub side]]) := Lib.hid rfl
  generalize secretS seed key bit side = SS at *
  have eb : bit = (((ub bit).toNat : Nat) : Int) := by rw [ub_val]; omega
  have es : side = (((ub side).toNat : Nat) : Int) := by rw [ub_val]; omega
  generalize ub bit = bb at *
  generalize ub side = sb at *
  subst eb es
  go_enter Try.func68, Try.ntmps68
  go_wp2_with fail
  refine (rnum_any w.heap.size _ [] key (by decide) w (Nat.le_refl _) (World.ownsRow_nil _ _ _ _)).mono ?_
  rintro e w1 ⟨v1, rfl, h1, h2, -⟩
  obtain ⟨A1, c1, rfl⟩ := h1.form
  have H1 := Lib.hid (And.intro h2 (And.intro (show Bys w1 _ (be4 key) from h1.bys) (HX.out.below h2)))
  clear h1 h2
  go_wp2_with fail
  have hal := (Below.refl w1.heap.size w1).alloc (Nat.le_refl _) (.cells (bys [bb, sb]).toArray 5)
  have hbb : Bys (w1.alloc (.cells (bys [bb, sb]).toArray 5)) (.slice (some ⟨w1.heap.size, 0, none⟩) 2 2) [bb, sb] := Sho.new w1 5 (bys [bb, sb]) 2 1 2 rfl (Nat.le_refl _) (by decide)
  have hal2 := (Below.refl w1.heap.size (w1.alloc (.cells (bys [bb, sb]).toArray 5))).alloc (by simp) (.cells #[.slice A seed.length c, .slice A1 ([] ++ be4 key).length c1, .slice (some ⟨w1.heap.size, 0, none⟩) 2 2] 30)
  refine (rtag_any 10 10 rfl _ [seed, be4 key, [bb, sb]] (by simp [be4_length]; omega) (by simp) _ (new3 30 (b := w1.heap.size + 1) (by simp) (H1.out.2.2.below hal) (H1.out.2.1.below hal) hbb)).mono ?_
  rintro e w2 ⟨v2, rfl, h1, h2⟩
  have H2 := Lib.hid (And.intro h1 (hal.trans (hal2.trans (h2.mono (by simp; omega)))))
  have hsz := hal2.size
  have hsz0 := hal.size
  clear h1 h2 hal hal2 hbb
  go_wp2
  go_ret
  exact ⟨_, rfl, by rw [HSS.out]; exact own_mono' H2.out.1 (by have := H1.out.1.size; omega), H1.out.1.trans (H2.out.2.mono H1.out.1.size)⟩
set_option maxRecDepth 100000 in
set_option maxHeartbeats 1000000 in
theorem rshown_any (v : Value) (seed : List UInt8) (key bit side : Int) (hk : 0 ≤ key ∧ key < 1000) (hb : 0 ≤ bit ∧ bit < 256) (hs : 0 ≤ side ∧ side < 256) (hsm : seed.length ≤ 1000000000) (w : World) (hx : Bys w v seed) :
    Calls Try.prog 64 #[v, .int .i64 key, .int .i64 bit, .int .i64 side] w (RetB w (shownS seed key bit side)) := by
  have HS := Lib.hid (rsecret_any v seed key bit side hk hb hs hsm w hx)
  obtain ⟨A, c, rfl⟩ := hx.form
  clear hx hk hb hs
  have HSS : Hid (shownS seed key bit side = tagH 11 [secretS seed key bit side]) := Lib.hid rfl
  have HL := Lib.hid (secretS_length seed key bit side)
  generalize secretS seed key bit side = S at *
  generalize shownS seed key bit side = SS at *
  go_enter Try.func64, Try.ntmps64
  go_wp2_with fail
  refine HS.out.mono ?_
  rintro e w1 ⟨v1, rfl, h1, h2⟩
  obtain ⟨A1, c1, rfl⟩ := h1.form
  have H1 := Lib.hid (And.intro h2 h1.bys)
  clear h1 h2 HS
  have hal := (Below.refl w1.heap.size w1).alloc (Nat.le_refl _) (.cells #[.slice A1 S.length c1] 30)
  go_wp2_with fail
  refine (rtag_any 11 11 rfl _ [S] (by simp; have := HL.out; omega) (by simp) _ (new1 30 (b := w1.heap.size) rfl H1.out.2)).mono ?_
  rintro e w2 ⟨v2, rfl, h1, h2⟩
  have H2 := Lib.hid (And.intro h1 (hal.trans (h2.mono (by simp))))
  clear h1 h2 hal
  go_wp2
  go_ret
  exact ⟨_, rfl, by rw [HSS.out]; exact own_mono' H2.out.1 (by have := H1.out.1.size; simp; omega), H1.out.1.trans (H2.out.2.mono H1.out.1.size)⟩

/-- What of a message is signed. -/
def digS (msg : List UInt8) : Int := wordAt (tagH 13 [msg]) 0 4
set_option maxRecDepth 100000 in
set_option maxHeartbeats 1000000 in
theorem rdigest_any (v : Value) (msg : List UInt8) (hsm : msg.length ≤ 1000000000) (w : World) (hx : Bys w v msg) :
    Calls Try.prog 67 #[v] w fun e w' => e = .returned (.int .u32 (digS msg)) ∧ Below w.heap.size w w' := by
  obtain ⟨A, c, rfl⟩ := hx.form
  have HX := Lib.hid hx
  clear hx
  have hL := tagH_length 13 [msg]
  have HD : Hid (∀ (h : 3 < (tagH 13 [msg]).length), digS msg = w4 ((tagH 13 [msg])[0]'(Nat.lt_of_le_of_lt (Nat.zero_le _) h)) ((tagH 13 [msg])[1]'(Nat.lt_of_le_of_lt (by decide) h)) ((tagH 13 [msg])[2]'(Nat.lt_of_le_of_lt (by decide) h)) ((tagH 13 [msg])[3]'h)) := Lib.hid (fun h => wordAt4 _ 0 h)
  generalize digS msg = DS at *
  generalize hTE : tagH 13 [msg] = T at *
  have HTE := Lib.hid hTE
  clear hTE
  go_enter Try.func67, Try.ntmps67
  have hal := (Below.refl w.heap.size w).alloc (Nat.le_refl _) (.cells #[.slice A msg.length c] 30)
  go_wp2_with fail
  have HT := Lib.hid (rtag_any 13 13 rfl _ [msg] (by simp; omega) (by simp) _ (new1 30 (b := w.heap.size) rfl HX.out))
  rw [HTE.out] at HT
  refine HT.out.mono ?_
  rintro e w1 ⟨v1, rfl, h1, h2⟩
  obtain ⟨A1, c1, rfl⟩ := h1.form
  obtain ⟨g, o, rfl, -, hg, hc1, -, hcells⟩ := h1.bys.place (by omega)
  have H1 := Lib.hid (hal.trans (h2.mono (by simp)))
  have h3 : 3 < T.length := by omega
  have p0 := hcells 0 (by omega)
  have p1 := hcells 1 (by omega)
  have p2 := hcells 2 (by omega)
  have p3 := hcells 3 h3
  rw [Nat.add_zero] at p0
  have HD2 := Lib.hid (HD.out h3)
  have t0 := (T[0]'(by omega)).toNat_lt
  have t1 := (T[1]'(by omega)).toNat_lt
  have t2 := (T[2]'(by omega)).toNat_lt
  have t3 := (T[3]'(by omega)).toNat_lt
  clear HD HT h1 h2 hal hcells
  generalize T[0]'(by omega) = b0 at *
  generalize T[1]'(by omega) = b1 at *
  generalize T[2]'(by omega) = b2 at *
  generalize T[3]'h3 = b3 at *
  have eb0 : ((b0.toNat : Nat) : Int) % 4294967296 = (b0.toNat : Nat) := by omega
  have eb1 : ((b1.toNat : Nat) : Int) % 4294967296 = (b1.toNat : Nat) := by omega
  have eb2 : ((b2.toNat : Nat) : Int) % 4294967296 = (b2.toNat : Nat) := by omega
  have eb3 : ((b3.toNat : Nat) : Int) % 4294967296 = (b3.toNat : Nat) := by omega
  have hl32 : (0 : Int) < (T.length : Int) ∧ (1 : Int) < (T.length : Int) ∧ (2 : Int) < (T.length : Int) ∧ (3 : Int) < (T.length : Int) := by omega
  obtain ⟨hl0, hl1, hl2, hl3⟩ := hl32
  have HLT := Lib.hid hL
  clear hL h3
  go_wp2
  go_quiet (fail)
  go_wp2
  go_ret
  exact ⟨by rw [HD2.out]; rfl, below_drewN H1.out _⟩
end Go.Proofs.Ytlkgeifmppadmaa
namespace Go.Proofs.Ytlkgeifmppadmaa
open Go.RowKit
set_option linter.unusedVariables false
set_option linter.unusedSimpArgs false

def pubAcc (seed : List UInt8) (key : Int) : Nat → List UInt8
  | 0 => []
  | j + 1 => pubAcc seed key j ++ shownS seed key j 0 ++ shownS seed key j 1
theorem pubAcc_length (seed : List UInt8) (key : Int) (j : Nat) : (pubAcc seed key j).length = 64 * j := by
  induction j with
  | zero => rfl
  | succ j ih => show (pubAcc seed key j ++ shownS seed key j 0 ++ shownS seed key j 1).length = _; rw [List.length_append, List.length_append, ih, shownS_length, shownS_length]; omega
def publicS (seed : List UInt8) (key : Int) : List UInt8 := tagH 12 [pubAcc seed key 32]
theorem publicS_length (seed : List UInt8) (key : Int) : (publicS seed key).length = 32 := tagH_length _ _
set_option maxRecDepth 100000 in
set_option maxHeartbeats 2000000 in
theorem rpublic_any (v : Value) (seed : List UInt8) (key : Int) (hk : 0 ≤ key ∧ key < 1000) (hsm : seed.length ≤ 1000000000) (w : World) (hx : Bys w v seed) :
    Calls Try.prog 43 #[v, .int .i64 key] w (RetB w (publicS seed key)) := by
  obtain ⟨i0, hi0, hz0, hz1, hz2⟩ := info_parts info_u8
  obtain ⟨A, c, rfl⟩ := hx.form
  have HX := Lib.hid hx
  clear hx
  have HPS : Hid (publicS seed key = tagH 12 [pubAcc seed key 32]) := Lib.hid rfl
  generalize publicS seed key = PS at *
  go_enter Try.func43, Try.ntmps43
  go_wp2
  go_loopw [5, 6] (fun v5 v6 wr => ∃ j : Nat, v6 = .int .i64 j ∧ j ≤ 32 ∧ Hid (Below w.heap.size w wr ∧ OwnB wr w.heap.size v5 (pubAcc seed key j))) (fun _ v _ => 32 - (intOf v).toNat)
  case atStart => exact ⟨0, rfl, by decide, Lib.hid ⟨Below.refl _ _, World.ownsRow_nil _ _ _ _⟩⟩
  case round =>
    obtain ⟨j, rfl, hj, HI⟩ := hrel
    have hlen := pubAcc_length seed key j
    by_cases hlt : j < 32
    · have HC0 := Lib.hid (fun (wz : World) (hz : Bys wz (.slice A seed.length c) seed) => rshown_any (.slice A seed.length c) seed key j 0 hk (by omega) (by decide) hsm wz hz)
      have HC1 := Lib.hid (fun (wz : World) (hz : Bys wz (.slice A seed.length c) seed) => rshown_any (.slice A seed.length c) seed key j 1 hk (by omega) (by decide) hsm wz hz)
      have HACC : Hid (pubAcc seed key (j + 1) = pubAcc seed key j ++ shownS seed key j 0 ++ shownS seed key j 1) := Lib.hid rfl
      have HL0 := Lib.hid (shownS_length seed key j 0)
      have HL1 := Lib.hid (shownS_length seed key j 1)
      have hD : (pubAcc seed key j).length ≤ 10000 := by omega
      generalize shownS seed key j 0 = S0 at *
      generalize shownS seed key j 1 = S1 at *
      generalize pubAcc seed key j = D at *
      clear hlen
      have hsz := HI.out.1.size
      obtain ⟨A5, c5, rfl⟩ := HI.out.2.form
      go_wp2_with fail
      refine (HC0.out wr (HX.out.below HI.out.1)).mono ?_
      rintro e w1 ⟨v1, rfl, h1, h2⟩
      obtain ⟨A1, c1, rfl⟩ := h1.form
      have H1 := Lib.hid (And.intro (HI.out.1.trans (h2.mono hsz)) (And.intro (HI.out.2.keep h2) h1.bys))
      have hsz1 := H1.out.1.size
      clear h1 h2
      go_wp2_with (at_builtin; (refine wpList_append_any rfl (.tmp 11) (.tmp 15) 30 rfl w.heap.size 5 i0 (.int .u8 0) 1 1 Try.underlying30 hi0 hz0 hz1 hz2 rfl (by decide) _ _ _ rfl H1.out.2.1.any _ S0.length (bys S0) rfl H1.out.2.2.news (by have := HL0.out; unfold maxLen; omega) (by have := HL0.out; omega) hsz1 ?_); intro v2 W2 hown2 hgrow2; have HB2 : Hid (Below w.heap.size w W2) := Lib.hid (H1.out.1.grown hgrow2 hsz1 (fun k e => OwnB.ge H1.out.2.1 e)); have HO2 : Hid (OwnB W2 w.heap.size v2 (D ++ S0)) := Lib.hid (OwnB.append rfl hown2); clear hown2 hgrow2)
      have hDS : (D ++ S0).length ≤ 20000 := by rw [List.length_append, HL0.out]; omega
      generalize hE : D ++ S0 = E at *
      have HE := Lib.hid hE
      clear hE
      obtain ⟨A2, c2, rfl⟩ := HO2.out.form
      refine (HC1.out W2 (HX.out.below HB2.out)).mono ?_
      rintro e w3 ⟨v3, rfl, h1, h2⟩
      obtain ⟨A3, c3, rfl⟩ := h1.form
      have H3 := Lib.hid (And.intro (HB2.out.trans (h2.mono HB2.out.size)) (And.intro (HO2.out.keep h2) h1.bys))
      have hsz3 := H3.out.1.size
      clear h1 h2
      go_wp2_with (at_builtin; (refine wpList_append_any rfl (.tmp 16) (.tmp 20) 30 rfl w.heap.size 5 i0 (.int .u8 0) 1 1 Try.underlying30 hi0 hz0 hz1 hz2 rfl (by decide) _ _ _ rfl H3.out.2.1.any _ S1.length (bys S1) rfl H3.out.2.2.news (by have := HL1.out; unfold maxLen; omega) (by have := HL1.out; omega) hsz3 ?_); intro v4 W4 hown4 hgrow4; have HB4 : Hid (Below w.heap.size w W4) := Lib.hid (H3.out.1.grown hgrow4 hsz3 (fun k e => OwnB.ge H3.out.2.1 e)); have HO4 : Hid (OwnB W4 w.heap.size v4 (E ++ S1)) := Lib.hid (OwnB.append rfl hown4); clear hown4 hgrow4)
      go_roundw
      case rel => exact ⟨j + 1, by go_num, by omega, Lib.hid ⟨HB4.out, by rw [HACC.out]; have := HO4.out; rwa [← HE.out] at this⟩⟩
      case measure => simp [intOf]; omega
    · obtain rfl : j = 32 := by omega
      have HB := Lib.hid HI.out.1
      have hle : (pubAcc seed key 32).length ≤ 2048 := by omega
      clear hlen
      generalize pubAcc seed key 32 = PA at *
      have hsz := HI.out.1.size
      obtain ⟨A5, c5, rfl⟩ := HI.out.2.form
      have HT := Lib.hid (rtag_any 12 12 rfl _ [PA] (by simp; omega) (by simp) _ (new1 30 (b := wr.heap.size) rfl HI.out.2.bys))
      rw [← HPS.out] at HT
      have hal := (Below.refl wr.heap.size wr).alloc (Nat.le_refl _) (.cells #[.slice A5 PA.length c5] 30)
      go_wp2_with fail
      refine HT.out.mono ?_
      rintro e w2 ⟨v2, rfl, h1, h2⟩
      have H2 := Lib.hid (And.intro h1 (hal.trans (h2.mono (by simp))))
      clear h1 h2 hal
      go_wp2
      go_ret
      exact ⟨_, rfl, own_mono' H2.out.1 (by simp; omega), HB.out.trans (H2.out.2.mono hsz)⟩

/-- A digest's bit. -/
def bitS (d : Int) (j : Nat) : Int := wrap64 (bits .and .u32 (d / 2 ^ (31 - j)) 1)
def partS (seed : List UInt8) (key d : Int) (j s : Nat) : List UInt8 := if (bitS d j == (s : Int)) = true then secretS seed key j s else shownS seed key j s
theorem partS_length (seed : List UInt8) (key d : Int) (j s : Nat) : (partS seed key d j s).length = 32 := by
  unfold partS
  split
  · exact secretS_length _ _ _ _
  · exact shownS_length _ _ _ _
/-- So many parts of a signature. -/
def sigAcc (seed : List UInt8) (key d : Int) : Nat → List (List UInt8)
  | 0 => []
  | n + 1 => sigAcc seed key d n ++ [partS seed key d (n / 2) (n % 2)]
theorem sigAcc_length (seed : List UInt8) (key d : Int) (n : Nat) : (sigAcc seed key d n).length = n := by
  induction n with
  | zero => rfl
  | succ n ih => show (sigAcc seed key d n ++ [_]).length = _; rw [List.length_append, ih]; rfl
def partsS (seed : List UInt8) (key : Int) (msg : List UInt8) : List (List UInt8) := sigAcc seed key (digS msg) 64
theorem partsS_length (seed : List UInt8) (key : Int) (msg : List UInt8) : (partsS seed key msg).length = 64 := sigAcc_length _ _ _ _
/-- A call that gives texts of its own, and turns nothing. -/
def RetR (w : World) (ls : List (List UInt8)) (e : Ending) (w' : World) : Prop := ∃ v', e = .returned v' ∧ OwnR w' w.heap.size v' ls ∧ Below w.heap.size w w'
theorem retr_push {wr w1 W : World} {B : Nat} {v : Value} {ls : List (List UInt8)} {x : List UInt8} {A1 : Option Addr} {c1 g cap : Nat}
    (hO : OwnR wr B v ls) (hsz : B ≤ wr.heap.size) (hb : Below wr.heap.size wr w1) (hx : OwnB w1 wr.heap.size (.slice A1 x.length c1) x)
    {us : List Value} (hu : ∀ i (h : i < ls.length), ∃ u, us[i]? = some u ∧ Bys w1 u ls[i] ∧ (0 < ls[i].length → u.ownBlock ≠ v.ownBlock ∧ ∀ g, u.ownBlock = some g → B ≤ g)) (hl : us.length = ls.length)
    (ho : W.ownsRow B 30 1 (.slice (some ⟨g, 0, none⟩) (ls.length + 1) cap) (ls.length + 1) (us ++ [.slice A1 x.length c1])) (hg : (w1.alloc (.cells #[.slice A1 x.length c1] 30)).grownBy W v.ownBlock) (hlie : v.ownBlock = some g ∨ g = w1.heap.size + 1) :
    OwnR W B (.slice (some ⟨g, 0, none⟩) (ls.length + 1) cap) (ls ++ [x]) ∧ Below B wr W := by
  refine ⟨OwnR.push hu hl hx.bys (fun h0 => ⟨fun e => ?_, fun g hg => Nat.le_trans hsz (hx.ge hg)⟩) ho hg hlie, ?_⟩
  · cases hq : v.ownBlock with
    | none =>
      rw [hq] at e
      obtain ⟨g', o', e1, _⟩ := hx.bys.place h0
      subst e1
      cases e
    | some q =>
      have h1 := hO.lt hq
      rw [hq] at e
      have h2 := hx.ge e
      omega
  · exact (hb.mono hsz).trans (((Below.refl B w1).alloc (Nat.le_trans hsz hb.size) _).grown hg (by have := hb.size; simp; omega) (fun k e => hO.ge e))

set_option maxRecDepth 100000 in
set_option maxHeartbeats 2000000 in
theorem rsign_any (v u : Value) (seed msg : List UInt8) (key : Int) (hk : 0 ≤ key ∧ key < 1000) (hsm : seed.length ≤ 1000000000) (hsm2 : msg.length ≤ 1000000000) (w : World) (hx : Bys w v seed) (hy : Bys w u msg) :
    Calls Try.prog 49 #[v, .int .i64 key, u] w (RetR w (partsS seed key msg)) := by
  obtain ⟨i0, hi0, hz0, hz1, hz2⟩ := info_parts info_bytes
  obtain ⟨A, c, rfl⟩ := hx.form
  obtain ⟨B, d, rfl⟩ := hy.form
  have HX := Lib.hid (And.intro hx hy)
  have HPS : Hid (partsS seed key msg = sigAcc seed key (digS msg) 64) := Lib.hid rfl
  generalize partsS seed key msg = PS at *
  clear hx hy
  go_enter Try.func49, Try.ntmps49
  go_wp2_with fail
  refine (rdigest_any _ msg hsm2 w HX.out.2).mono ?_
  rintro e w1 ⟨rfl, h1⟩
  have H1 := Lib.hid h1
  generalize digS msg = D at *
  clear h1
  go_wp2
  go_loopw [8, 9] (fun v8 v9 wr => ∃ j : Nat, v9 = .int .i64 j ∧ j ≤ 32 ∧ Hid (Below w.heap.size w wr ∧ OwnR wr w.heap.size v8 (sigAcc seed key D (2 * j)))) (fun _ v _ => 32 - (intOf v).toNat)
  case atStart => exact ⟨0, rfl, by decide, Lib.hid ⟨H1.out, OwnR.nil _ _⟩⟩
  case round =>
    obtain ⟨j, rfl, hj, HI⟩ := hrel
    by_cases hlt : j < 32
    · have es : IntKind.i64.wrap (31 - (j : Int)) = 31 - (j : Int) := IntWalk.i64_in _ (by omega)
      have hdj : decide ((j : Int) < 32) = true := by simp; omega
      go_wp2
      go_loopw [8, 10] (fun v8 v10 wr => ∃ s : Nat, v10 = .int .i64 s ∧ s ≤ 2 ∧ Hid (Below w.heap.size w wr ∧ OwnR wr w.heap.size v8 (sigAcc seed key D (2 * j + s)))) (fun _ v _ => 2 - (intOf v).toNat)
      case atStart => exact ⟨0, rfl, by decide, HI⟩
      case round =>
        clear HI
        obtain ⟨s, rfl, hs, HJ⟩ := hrel
        by_cases hlt2 : s < 2
        · have HSEC := Lib.hid (fun (wz : World) (hz : Bys wz (.slice A seed.length c) seed) => rsecret_any (.slice A seed.length c) seed key j s hk (by omega) (by omega) hsm wz hz)
          have HSHO := Lib.hid (fun (wz : World) (hz : Bys wz (.slice A seed.length c) seed) => rshown_any (.slice A seed.length c) seed key j s hk (by omega) (by omega) hsm wz hz)
          have HACC : Hid (sigAcc seed key D (2 * j + s + 1) = sigAcc seed key D (2 * j + s) ++ [partS seed key D j s]) := Lib.hid (by
            show sigAcc seed key D (2 * j + s) ++ [partS seed key D ((2 * j + s) / 2) ((2 * j + s) % 2)] = _
            rw [show (2 * j + s) / 2 = j by omega, show (2 * j + s) % 2 = s by omega])
          have hal : (sigAcc seed key D (2 * j + s)).length ≤ 100 := by rw [sigAcc_length]; omega
          have HPART : Hid (partS seed key D j s = if (bitS D j == (s : Int)) = true then secretS seed key j s else shownS seed key j s) := Lib.hid rfl
          have ebit : wrap64 (bits BinOp.and IntKind.u32 (D / 2 ^ (31 - j)) 1) = bitS D j := rfl
          have hl1 := Lib.hid (secretS_length seed key j s)
          have hl2 := Lib.hid (shownS_length seed key j s)
          generalize partS seed key D j s = PT at *
          generalize secretS seed key j s = SE at *
          generalize shownS seed key j s = SH at *
          generalize bitS D j = BI at *
          generalize sigAcc seed key D (2 * j + s) = L at *
          have hsz := HJ.out.1.size
          obtain ⟨A8, c8, rfl⟩ := HJ.out.2.rws.form
          by_cases hbit : (BI == (s : Int)) = true
          · have HPT : Hid (PT = SE) := Lib.hid (by rw [HPART.out, if_pos hbit])
            go_wp2_with fail
            refine (HSEC.out wr (HX.out.1.below HJ.out.1)).mono ?_
            rintro e w2 ⟨v2, rfl, h1, h2⟩
            obtain ⟨A2, c2, rfl⟩ := h1.form
            obtain ⟨us, hu1, hu2⟩ := HJ.out.2.keep h2
            have H2 := Lib.hid (And.intro h1 (And.intro h2 (And.intro hu1 hu2)))
            have hsz2 := h2.size
            clear h1 h2 hu1 hu2
            go_wp2_with (at_builtin; (refine wpList_append_lies _ rfl (.tmp 30) (.tmp 36) 31 rfl w.heap.size 30 i0 (.slice none 0 0) 1 24 Try.underlying31 hi0 hz0 hz1 hz2 rfl (by decide) _ L.length us rfl (World.ownsRow.alloc H2.out.2.2.1 _) ⟨w2.heap.size, 0, none⟩ 1 1 [.slice A2 SE.length c2] rfl rfl (World.news_of_block (blk_new _ _)) (by simp [Value.oneCell']) (by decide) (by unfold maxLen; omega) (by omega) (by simp; omega) (w2.heap.size + 1) (by simp) ?_); intro g3 c3 W3 hown3 hgrow3 hlie3 hlt3)
            have HR3 := Lib.hid (retr_push HJ.out.2 hsz H2.out.2.1 H2.out.1 H2.out.2.2.2 (by have := H2.out.2.2.1.1; omega) hown3 hgrow3 hlie3)
            go_roundw
            case rel => exact ⟨s + 1, by go_num, by omega, Lib.hid ⟨HJ.out.1.trans HR3.out.2, by rw [← Nat.add_assoc, HACC.out, HPT.out]; exact HR3.out.1⟩⟩
            case measure => simp [intOf]; omega
          · have hbf : (BI == (s : Int)) = false := by simpa using hbit
            have HPT : Hid (PT = SH) := Lib.hid (by rw [HPART.out, if_neg hbit])
            have HBIT := Lib.hid hbit
            clear hbit
            go_wp2_with fail
            refine (HSHO.out wr (HX.out.1.below HJ.out.1)).mono ?_
            rintro e w2 ⟨v2, rfl, h1, h2⟩
            obtain ⟨A2, c2, rfl⟩ := h1.form
            obtain ⟨us, hu1, hu2⟩ := HJ.out.2.keep h2
            have H2 := Lib.hid (And.intro h1 (And.intro h2 (And.intro hu1 hu2)))
            have hsz2 := h2.size
            clear h1 h2 hu1 hu2
            go_wp2_with (at_builtin; (refine wpList_append_lies _ rfl (.tmp 38) (.tmp 44) 31 rfl w.heap.size 30 i0 (.slice none 0 0) 1 24 Try.underlying31 hi0 hz0 hz1 hz2 rfl (by decide) _ L.length us rfl (World.ownsRow.alloc H2.out.2.2.1 _) ⟨w2.heap.size, 0, none⟩ 1 1 [.slice A2 SH.length c2] rfl rfl (World.news_of_block (blk_new _ _)) (by simp [Value.oneCell']) (by decide) (by unfold maxLen; omega) (by omega) (by simp; omega) (w2.heap.size + 1) (by simp) ?_); intro g3 c3 W3 hown3 hgrow3 hlie3 hlt3)
            have HR3 := Lib.hid (retr_push HJ.out.2 hsz H2.out.2.1 H2.out.1 H2.out.2.2.2 (by have := H2.out.2.2.1.1; omega) hown3 hgrow3 hlie3)
            go_roundw
            case rel => exact ⟨s + 1, by go_num, by omega, Lib.hid ⟨HJ.out.1.trans HR3.out.2, by rw [← Nat.add_assoc, HACC.out, HPT.out]; exact HR3.out.1⟩⟩
            case measure => simp [intOf]; omega
        · obtain rfl : s = 2 := by omega
          go_wp2
          go_roundw
          case rel => exact ⟨j + 1, by go_num, by omega, HJ⟩
          case measure => simp [intOf]; omega
    · obtain rfl : j = 32 := by omega
      go_wp2
      go_ret
      exact ⟨_, rfl, by rw [HPS.out]; exact HI.out.2, HI.out.1⟩
/-- What a signature's parts lead to. -/
def rootPart (d : Int) (i : Nat) (p : List UInt8) : List UInt8 := if (bitS d (i / 2) == ((i % 2 : Nat) : Int)) = true then tagH 11 [p] else p
def rootAcc (d : Int) (ls : List (List UInt8)) : Nat → List UInt8
  | 0 => []
  | i + 1 => rootAcc d ls i ++ rootPart d i (ls.getD i [])
def hashesB (ls : List (List UInt8)) : Bool := ls.all (fun l => l.length == 32)
def rootS (msg : List UInt8) (ls : List (List UInt8)) : List UInt8 := tagH 12 [rootAcc (digS msg) ls 64]
theorem rootPart_length (d : Int) (i : Nat) (p : List UInt8) (h : p.length = 32) : (rootPart d i p).length = 32 := by
  unfold rootPart
  split
  · exact tagH_length _ _
  · exact h
set_option maxRecDepth 100000 in
set_option maxHeartbeats 2000000 in
theorem rroot_any (v u : Value) (msg : List UInt8) (ls : List (List UInt8)) (h64 : ls.length = 64) (h32 : ∀ i (h : i < ls.length), ls[i].length = 32) (hsm : msg.length ≤ 1000000000) (w : World) (hx : Bys w v msg) (hy : Rws w u ls) :
    Calls Try.prog 53 #[v, u] w fun e w' => ∃ v', e = .returned (.tuple #[v', .bool true]) ∧ OwnB w' w.heap.size v' (rootS msg ls) ∧ Below w.heap.size w w' := by
  obtain ⟨i0, hi0, hz0, hz1, hz2⟩ := info_parts info_u8
  obtain ⟨A, c, rfl⟩ := hx.form
  obtain ⟨B, d, rfl⟩ := hy.form
  have HX := Lib.hid (And.intro hx hy)
  have H64 := Lib.hid h64
  have H32 := Lib.hid h32
  have HRS : Hid (rootS msg ls = tagH 12 [rootAcc (digS msg) ls 64]) := Lib.hid rfl
  generalize rootS msg ls = RS at *
  have hne : (((ls.length : Nat) : Int) != 64) = false := by simp [h64]
  clear hx hy h64 h32
  go_enter Try.func53, Try.ntmps53
  go_wp2_with fail
  refine (rdigest_any _ msg hsm w HX.out.1).mono ?_
  rintro e w1 ⟨rfl, h1⟩
  have H1 := Lib.hid h1
  generalize digS msg = D at *
  clear h1 hne
  go_wp2
  go_loopw [7, 8] (fun v7 v8 wr => ∃ i : Nat, v8 = .int .i64 i ∧ i ≤ ls.length ∧ Hid (Below w.heap.size w wr ∧ OwnB wr w.heap.size v7 (rootAcc D ls i) ∧ (rootAcc D ls i).length = 32 * i)) (fun _ v _ => ls.length - (intOf v).toNat)
  case atStart => exact ⟨0, rfl, Nat.zero_le _, Lib.hid ⟨H1.out, World.ownsRow_nil _ _ _ _, rfl⟩⟩
  case round =>
    obtain ⟨i, rfl, hi, HI⟩ := hrel
    by_cases hlt : i < ls.length
    · have hi64 : i < 64 := by have := H64.out; omega
      obtain ⟨g, o, up, rfl, hg, -, -, hcu, hbu⟩ := HX.out.2.at' i hlt
      have p0 := (HI.out.1.cell (p := ⟨g, o + i, none⟩) hg).trans hcu
      have HBU := hbu.below HI.out.1
      obtain ⟨A9, c9, rfl⟩ := HBU.form
      have HU := Lib.hid HBU
      have HL := Lib.hid (H32.out i hlt)
      have HACC : Hid (rootAcc D ls (i + 1) = rootAcc D ls i ++ rootPart D i ls[i]) := Lib.hid (by
        show rootAcc D ls i ++ rootPart D i (ls.getD i []) = _
        rw [List.getD_eq_getElem?_getD, List.getElem?_eq_getElem hlt]; rfl)
      have HPART : Hid (rootPart D i ls[i] = if (bitS D (i / 2) == ((i % 2 : Nat) : Int)) = true then tagH 11 [ls[i]] else ls[i]) := Lib.hid rfl
      have hpl := Lib.hid (rootPart_length D i ls[i] HL.out)
      have hnl : (((ls[i].length : Nat) : Int) != 32) = false := by simp [HL.out]
      have hal : (rootAcc D ls i).length ≤ 10000 := by have := HI.out.2.2; omega
      have ebit : wrap64 (bits BinOp.and IntKind.u32 (D / 2 ^ (31 - i / 2)) 1) = bitS D (i / 2) := rfl
      have HTG := Lib.hid (fun (wz : World) (hz : Bys wz (.slice A9 ls[i].length c9) ls[i]) => rtag_any 11 11 rfl _ [ls[i]] (by simp; have := HL.out; omega) (by simp) _ (new1 30 (b := wz.heap.size) rfl hz))
      have htl := Lib.hid (tagH_length 11 [ls[i]])
      clear hcu hbu HBU
      generalize rootPart D i ls[i] = PT at *
      generalize tagH 11 [ls[i]] = TG at *
      generalize ls[i] = P at *
      generalize bitS D (i / 2) = BI at *
      have hsz := HI.out.1.size
      obtain ⟨A7, c7, rfl⟩ := HI.out.2.1.form
      have HII := Lib.hid HI.out
      generalize rootAcc D ls i = RA at *
      by_cases hbit : (BI == (i : Int) % 2) = true
      · have HPT : Hid (PT = TG) := Lib.hid (by rw [HPART.out, if_pos (by simpa using hbit)])
        go_wp2_with fail
        have hal1 := (Below.refl wr.heap.size wr).alloc (Nat.le_refl _) (.cells #[.slice A9 P.length c9] 30)
        refine (HTG.out wr HU.out).mono ?_
        rintro e w2 ⟨v2, rfl, h1, h2⟩
        obtain ⟨A2, c2, rfl⟩ := h1.form
        have hb2 := hal1.trans (h2.mono (by simp))
        have H2 := Lib.hid (And.intro (HI.out.1.trans (hb2.mono hsz)) (And.intro (HI.out.2.1.keep hb2) h1.bys))
        have hsz2 := H2.out.1.size
        clear h1 h2 hb2 hal1
        go_wp2_with (at_builtin; (refine wpList_append_any rfl (.tmp 45) (.tmp 46) 30 rfl w.heap.size 5 i0 (.int .u8 0) 1 1 Try.underlying30 hi0 hz0 hz1 hz2 rfl (by decide) _ _ _ rfl H2.out.2.1.any _ TG.length (bys TG) rfl H2.out.2.2.news (by have := htl.out; unfold maxLen; omega) (by have := htl.out; omega) hsz2 ?_); intro v4 W4 hown4 hgrow4)
        have HB4 : Hid (Below w.heap.size w W4) := Lib.hid (H2.out.1.grown hgrow4 hsz2 (fun k e => OwnB.ge H2.out.2.1 e))
        have HO4 : Hid (OwnB W4 w.heap.size v4 (RA ++ TG)) := Lib.hid (OwnB.append rfl hown4)
        go_roundw
        case rel => exact ⟨i + 1, by go_num, by omega, Lib.hid ⟨HB4.out, by rw [HACC.out, HPT.out]; exact HO4.out, by rw [HACC.out, HPT.out, List.length_append, HI.out.2.2, htl.out]; omega⟩⟩
        case measure => simp [intOf]; omega
      · have hbf : (BI == (i : Int) % 2) = false := by simpa using hbit
        have HPT : Hid (PT = P) := Lib.hid (by rw [HPART.out, if_neg (by simpa using hbit)])
        have HBIT := Lib.hid hbit
        clear hbit
        go_wp2_with (at_builtin; (refine wpList_append_any rfl (.tmp 45) (.tmp 46) 30 rfl w.heap.size 5 i0 (.int .u8 0) 1 1 Try.underlying30 hi0 hz0 hz1 hz2 rfl (by decide) _ _ _ rfl HI.out.2.1.any _ P.length (bys P) rfl HU.out.news (by have := HL.out; unfold maxLen; omega) (by have := HL.out; omega) hsz ?_); intro v4 W4 hown4 hgrow4)
        have HB4 : Hid (Below w.heap.size w W4) := Lib.hid (HI.out.1.grown hgrow4 hsz (fun k e => OwnB.ge HI.out.2.1 e))
        have HO4 : Hid (OwnB W4 w.heap.size v4 (RA ++ P)) := Lib.hid (OwnB.append rfl hown4)
        go_roundw
        case rel => exact ⟨i + 1, by go_num, by omega, Lib.hid ⟨HB4.out, by rw [HACC.out, HPT.out]; exact HO4.out, by rw [HACC.out, HPT.out, List.length_append, HI.out.2.2, HL.out]; omega⟩⟩
        case measure => simp [intOf]; omega
    · have hi64 : Hid (i = 64) := Lib.hid (by have := H64.out; omega)
      have HB := Lib.hid HI.out.1
      have hsz := HI.out.1.size
      have hrl : (rootAcc D ls i).length ≤ 10000 := by have := HI.out.2.2; have := hi64.out; omega
      have HRA : Hid (rootAcc D ls i = rootAcc D ls 64) := Lib.hid (by rw [hi64.out])
      obtain ⟨A7, c7, rfl⟩ := HI.out.2.1.form
      have HO := Lib.hid HI.out.2.1
      generalize rootAcc D ls i = RA at *
      have HT := Lib.hid (rtag_any 12 12 rfl _ [RA] (by simp; omega) (by simp) _ (new1 30 (b := wr.heap.size) rfl HO.out.bys))
      rw [HRA.out, ← HRS.out, ← HRA.out] at HT
      have hal := (Below.refl wr.heap.size wr).alloc (Nat.le_refl _) (.cells #[.slice A7 RA.length c7] 30)
      go_wp2_with fail
      refine HT.out.mono ?_
      rintro e w2 ⟨v2, rfl, h1, h2⟩
      have H2 := Lib.hid (And.intro h1 (hal.trans (h2.mono (by simp))))
      clear h1 h2 hal
      go_wp2
      go_ret2
      exact ⟨_, rfl, own_mono' H2.out.1 (by simp; omega), HB.out.trans (H2.out.2.mono hsz)⟩
end Go.Proofs.Ytlkgeifmppadmaa
