/- The program's policies: Right (the walk). Conditions: as each theorem states them. -/
import Derived.Test.YtgeplpdcnanmnaaGreatZaz
namespace Go.Proofs.YtgeplpdcnanmnaaGreat
open Go.RowKit
set_option linter.unusedVariables false
set_option linter.unusedSimpArgs false

theorem Rws.take {w : World} {A : Option Addr} {n c : Nat} {ls : List (List UInt8)} (h : Rws w (.slice A n c) ls) (k : Nat) (hk : k ≤ ls.length) : Rws w (.slice A k c) (ls.take k) := by
 obtain ⟨us, h1, h2⟩ := h
 have hl := h1.1
 rcases Nat.eq_zero_or_pos ls.length with h0 | h0
 ·obtain rfl : k = 0 := by omega
  exact ⟨[], ⟨by simp, .inl ⟨by simp, A, c, rfl⟩⟩, fun i hi => by simp at hi⟩
 ·obtain ⟨g, o, rfl, rfl, h3, h4, h5, h6⟩ := h1.place h0
  have hp := Sho.piece h1 h0 0 k c (by omega) (by omega) h5
  simp only [Nat.zero_mul, Nat.add_zero, List.drop_zero, Nat.mul_one] at hp
  refine ⟨us.take k, ?_, fun i hi => ?_⟩
  ·rw [List.length_take, Nat.min_eq_left hk]
   exact hp
  ·rw [List.length_take] at hi
   obtain ⟨u, e, hu⟩ := h2 i (by omega)
   refine ⟨u, by rw [List.getElem?_take_of_lt (by omega)]; exact e, ?_⟩
   rw [List.getElem_take]
   exact hu
theorem Rws.room {w : World} {A : Option Addr} {n c : Nat} {ls : List (List UInt8)} (h : Rws w (.slice A n c) ls) (h0 : 0 < ls.length) : ls.length ≤ c ∧ c ≤ maxLen := by
 obtain ⟨us, h1, h2⟩ := h
 obtain ⟨g, o, rfl, rfl, h3, h4, h5, h6⟩ := h1.place h0
 exact ⟨h4, h5⟩
theorem key_any (A : Option Addr) (n c : Nat) (b : Bool) (hb : (((n : Nat) : Int) == 32) = b) (w : World) : Calls Tryz.prog 129 #[.slice A n c] w fun e w' => e = .returned (.bool b) ∧ w = w' := by
 go_enter Tryz.func129, Tryz.ntmps129
 go_wp2
 go_ret
 exact ⟨rfl, rfl⟩
set_option maxRecDepth 100000 in
set_option maxHeartbeats 4000000 in
theorem coright_any (v : Value) (p : PolD) (hl : p.log.length ≤ 1000000000) (hw : p.wits.length ≤ 1000000000) (hq : -1000000000 ≤ p.quorum ∧ p.quorum ≤ 1000000000) (w : World) (hv : PolV w v p) :
  Calls Tryz.prog 51 #[v] w fun e w' => e = .returned (.bool (polB p)) ∧ Below w.heap.size w w' := by
 obtain ⟨l, ws, rfl, h1, h2⟩ := hv
 obtain ⟨L, cl, rfl⟩ := h1.form
 obtain ⟨R, cr, rfl⟩ := h2.form
 have HPB : Hid (polB p = ((decide (p.log.length = 32) && decide (1 ≤ p.wits.length) && decide (p.wits.length ≤ 4) && decide (1 ≤ p.quorum) && decide (p.quorum ≤ (p.wits.length : Int))) && witsN p.wits p.wits.length)) := Lib.hid rfl
 have HX := Lib.hid (And.intro h1 h2)
 clear h1 h2
 generalize polB p = PB at *
 obtain ⟨log, wits, q⟩ := p
 obtain ⟨hq0, hq1⟩ := hq
 have hk0 := Blk.new w 30 [.slice L log.length cl, .slice R wits.length cr, .int .i64 q]
 have hb0 : Below w.heap.size w (w.alloc (.cells #[.slice L log.length cl, .slice R wits.length cr, .int .i64 q] 30)) := (Below.refl w.heap.size w).alloc (Nat.le_refl _) _
 have HW := Lib.hid (And.intro hk0 hb0)
 clear hk0 hb0
 go_enter Tryz.func51, Tryz.ntmps51
 by_cases k1 : log.length = 32
 ·have n1 : (((log.length : Nat) : Int) == 32) = true := by simp [k1]
  have K1 := Lib.hid k1
  clear k1
  by_cases k2 : 1 ≤ wits.length
  ·by_cases k3 : wits.length ≤ 4
   ·by_cases k4 : 1 ≤ q
    ·by_cases k5 : q ≤ (wits.length : Int)
     ·have HP2 : Hid (PB = witsN wits wits.length) := Lib.hid (by rw [HPB.out]; simp [K1.out, k2, k3, k4, k5])
      clear HPB
      go_wp2
      refine code_at (fun w1 => Blk w1 w.heap.size 30 [.slice L log.length cl, .slice R wits.length cr, .int .i64 q] ∧ Below w.heap.size w w1) HW.out ?_
      intro w1 hw1
      have H1 := Lib.hid hw1
      have hsz1 := hw1.1.lt
      have q1 := hw1.1.cell 1 _ rfl
      clear hw1 HW
      go_wp2
      go_loopw [36] (fun v36 wr => ∃ k : Nat, v36 = .int .i64 k ∧ k ≤ wits.length ∧ Hid (Below w1.heap.size w1 wr ∧ witsN wits k = true)) (fun v _ => wits.length - (intOf v).toNat)
      case atStart => exact ⟨0, rfl, Nat.zero_le _, Lib.hid ⟨Below.refl _ _, rfl⟩⟩
      case round =>
       obtain ⟨k, rfl, hk, HI⟩ := hrel
       clear q1
       by_cases hlt : k < wits.length
       ·have HRW := Lib.hid (HX.out.2.below H1.out.2)
        obtain ⟨g, o, u, rfl, hg, -, -, hcu, hbu⟩ := HRW.out.at' k hlt
        obtain ⟨hroom, hroom2⟩ := HRW.out.room (by omega)
        have p0 := (HI.out.1.cell (p := ⟨g, o + k, none⟩) hg).trans hcu
        have r1 := ((H1.out.1.below HI.out.1)).cell 1 _ rfl
        have hbw : w.heap.size < wr.heap.size := (H1.out.1.below HI.out.1).lt
        have hbn := hbu.below HI.out.1
        obtain ⟨A9, c9, rfl⟩ := hbn.form
        have HWS : Hid (witsN wits (k + 1) = (witsN wits k && (len32 wits[k] && !(anyB (wits.take k) wits[k])))) := Lib.hid (by
         show (witsN wits k && (len32 (wits.getD k []) && !(anyB (wits.take k) (wits.getD k [])))) = _
         rw [List.getD_eq_getElem?_getD, List.getElem?_eq_getElem hlt]; rfl)
        have HB := Lib.hid (And.intro hbn (HRW.out.below HI.out.1))
        have hszr := HI.out.1.size
        unfold maxLen at hroom2
        clear hcu hbu hbn
        by_cases h32 : wits[k].length = 32
        ·have nk : (((wits[k].length : Nat) : Int) == 32) = true := by simp [h32]
         have H32 : Hid (len32 wits[k] = true) := Lib.hid (by simp [len32, h32])
         clear h32
         have hal := (Below.refl wr.heap.size wr).alloc (Nat.le_refl _) (.cells #[.slice A9 wits[k].length c9] 24)
         have hkB := Blk.new wr 24 [.slice A9 wits[k].length c9]
         have HC := Lib.hid (containsr_any _ _ (wits.take k) wits[k] wr.heap.size (by rw [List.length_take]; omega) _ ((HB.out.2.take k hk).below hal) (HB.out.1.below hal) (hkB.cell 0 _ rfl))
         have HAL := Lib.hid (HI.out.1.trans (hal.mono hszr))
         have hsa := hal.size
         clear hal hkB
         generalize wits[k] = X at *
         generalize anyB (wits.take k) X = AB at *
         cases AB with
         | true =>
          have HF : Hid (PB = false) := Lib.hid (by rw [HP2.out]; exact witsN_mono wits (k + 1) (by rw [HWS.out]; simp) _ (by omega))
          go_wp2_with (first | (go_at_call 129; refine (key_any _ _ _ true nk _).mono ?_; rintro e w' ⟨rfl, rfl⟩) | (go_at_call 131; refine HC.out.mono ?_; rintro e w2 ⟨rfl, h2⟩; have H2 := Lib.hid (HAL.out.trans (h2.mono (Nat.le_trans hszr hsa))); clear h2))
          go_ret
          exact ⟨by rw [HF.out]; rfl, H1.out.2.trans (H2.out.mono H1.out.2.size)⟩
         | false =>
          have HT : Hid (witsN wits (k + 1) = true) := Lib.hid (by rw [HWS.out, HI.out.2, H32.out]; rfl)
          go_wp2_with (first | (go_at_call 129; refine (key_any _ _ _ true nk _).mono ?_; rintro e w' ⟨rfl, rfl⟩) | (go_at_call 131; refine HC.out.mono ?_; rintro e w2 ⟨rfl, h2⟩; have H2 := Lib.hid (HAL.out.trans (h2.mono (Nat.le_trans hszr hsa))); clear h2))
          go_roundw
          case rel => exact ⟨k + 1, by go_num, by omega, Lib.hid ⟨H2.out, HT.out⟩⟩
          case measure => simp [intOf]; omega
        ·have nk : (((wits[k].length : Nat) : Int) == 32) = false := by simp; omega
         have HF : Hid (PB = false) := Lib.hid (by rw [HP2.out]; exact witsN_mono wits (k + 1) (by rw [HWS.out]; simp [len32, h32]) _ (by omega))
         have HAL := Lib.hid (HI.out.1.alloc hszr (.cells #[.slice A9 wits[k].length c9] 24))
         clear h32
         go_wp2
         go_ret
         exact ⟨by rw [HF.out]; rfl, H1.out.2.trans (HAL.out.mono H1.out.2.size)⟩
       ·have HT : Hid (PB = true) := Lib.hid (by
         obtain rfl : k = wits.length := by omega
         rw [HP2.out]; exact HI.out.2)
        have hnl : ¬ (k : Int) < (wits.length : Int) := by omega
        clear hlt
        go_wp2
        go_ret
        exact ⟨by rw [HT.out]; rfl, H1.out.2.trans (HI.out.1.mono H1.out.2.size)⟩
     ·have HT : Hid (PB = false) := Lib.hid (by rw [HPB.out]; simp [k5])
      go_wp2
      go_ret
      exact ⟨by rw [HT.out]; rfl, HW.out.2⟩
    ·have HT : Hid (PB = false) := Lib.hid (by rw [HPB.out]; simp [k4])
     go_wp2
     go_ret
     exact ⟨by rw [HT.out]; rfl, HW.out.2⟩
   ·have HT : Hid (PB = false) := Lib.hid (by rw [HPB.out]; simp [k3])
    go_wp2
    go_ret
    exact ⟨by rw [HT.out]; rfl, HW.out.2⟩
  ·have HT : Hid (PB = false) := Lib.hid (by rw [HPB.out]; simp [k2])
   go_wp2
   go_ret
   exact ⟨by rw [HT.out]; rfl, HW.out.2⟩
 ·have n1 : (((log.length : Nat) : Int) == 32) = false := by simp; omega
  have HT : Hid (PB = false) := Lib.hid (by rw [HPB.out]; simp [k1])
  clear k1
  go_wp2
  go_ret
  exact ⟨by rw [HT.out]; rfl, HW.out.2⟩
end Go.Proofs.YtgeplpdcnanmnaaGreat
