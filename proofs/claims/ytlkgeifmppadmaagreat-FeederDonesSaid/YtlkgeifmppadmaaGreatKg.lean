/- The program's policies: Right. The program's policies: Right (the walk). A feeder's own copy of its policy. The program's cosignatures: Verify. The reference's policies. Conditions: as each theorem states them. -/
import Derived.Test.YtlkgeifmppadmaaGreatKf
import Derived.Test.YtlkgeifmppadmaaGreatKe
import Derived.Deep.RegionLaw
import Derived.Deep.RegionHeld
namespace Go.Proofs.YtlkgeifmppadmaaGreat
open Go.RowKit
set_option linter.unusedVariables false
set_option linter.unusedSimpArgs false

/-- A policy. -/
structure PolD where
  log : List UInt8
  wits : List (List UInt8)
  quorum : Int
def PolV (w : World) (v : Value) (p : PolD) : Prop := ∃ l ws, v = .agg #[l, ws, .int .i64 p.quorum] ∧ Bys w l p.log ∧ Rws w ws p.wits
def PolF (S : Nat → Prop) (w : World) (v : Value) (p : PolD) : Prop := ∃ l ws, v = .agg #[l, ws, .int .i64 p.quorum] ∧ BysF S w l p.log ∧ RwsF S w ws p.wits
theorem PolF.polv {S : Nat → Prop} {w : World} {v : Value} {p : PolD} (h : PolF S w v p) : PolV w v p := by
  obtain ⟨l, ws, e, h1, h2⟩ := h
  exact ⟨l, ws, e, h1.1, h2.rws⟩
theorem PolV.below {w w1 : World} {v : Value} {p : PolD} (h : PolV w v p) (hb : Below w.heap.size w w1) : PolV w1 v p := by
  obtain ⟨l, ws, e, h1, h2⟩ := h
  exact ⟨l, ws, e, h1.below hb, h2.below hb⟩
theorem PolF.chg {S T : Nat → Prop} {w w1 : World} {v : Value} {p : PolD} (h : PolF S w v p) (hc : Chg w w1 T) (hS : ∀ g, S g → ¬ T g) : PolF S w1 v p := by
  obtain ⟨l, ws, e, h1, h2⟩ := h
  exact ⟨l, ws, e, h1.chg hc hS, h2.chg hc hS⟩
theorem PolF.mono {S T : Nat → Prop} {w : World} {v : Value} {p : PolD} (h : PolF S w v p) (hS : ∀ g, S g → T g) : PolF T w v p := by
  obtain ⟨l, ws, e, h1, h2⟩ := h
  exact ⟨l, ws, e, h1.mono hS, h2.mono hS⟩
def anyB (ls : List (List UInt8)) (x : List UInt8) : Bool := ls.any (fun b => b == x)
/-- The first k witnesses' keys are right. -/
def witsN (ls : List (List UInt8)) : Nat → Bool
  | 0 => true
  | k + 1 => witsN ls k && (len32 (ls.getD k []) && !(anyB (ls.take k) (ls.getD k [])))
theorem witsN_mono (ls : List (List UInt8)) (k : Nat) (h : witsN ls k = false) : ∀ j, k ≤ j → witsN ls j = false := by
  intro j hj
  induction j with
  | zero => obtain rfl : k = 0 := by omega
            exact h
  | succ j ih =>
    by_cases e : k = j + 1
    · subst e; exact h
    · show (witsN ls j && _) = false
      rw [ih (by omega), Bool.false_and]
/-- A policy may be. -/
def polB (p : PolD) : Bool := (decide (p.log.length = 32) && decide (1 ≤ p.wits.length) && decide (p.wits.length ≤ 4) && decide (1 ≤ p.quorum) && decide (p.quorum ≤ (p.wits.length : Int))) && witsN p.wits p.wits.length

theorem right1_any (x u : Value) (a b : List UInt8) (B : Nat) (w : World) (hx : Bys w x a) (hu : Bys w u b) (hB : w.cell? ⟨B, 0, none⟩ = some u) :
    Calls Tryz.prog 46 #[x, .pointer (some ⟨B, 0, none⟩)] w fun e w' => e = .returned (.bool (a == b)) ∧ w = w' := by
  have H := Lib.hid (same_bytes x u a b w hx hu)
  obtain ⟨A, c, rfl⟩ := hx.form
  obtain ⟨A', c', rfl⟩ := hu.form
  clear hx hu
  go_enter Tryz.func46, Tryz.ntmps46
  go_wp2_with fail
  refine H.out.mono ?_
  rintro e w' ⟨rfl, rfl⟩
  go_wp2
  go_ret
  exact ⟨rfl, rfl⟩
theorem anyB_at {ls : List (List UInt8)} {x : List UInt8} (k : Nat) (h : k < ls.length) (e : ls[k] = x) : anyB ls x = true := by
  unfold anyB
  rw [List.any_eq_true]
  exact ⟨_, List.getElem_mem h, by simp [e]⟩
theorem anyB_no {ls : List (List UInt8)} {x : List UInt8} (h : ∀ i (h : i < ls.length), ls[i] ≠ x) : anyB ls x = false := by
  unfold anyB
  rw [List.any_eq_false]
  intro y hy
  obtain ⟨i, hi, rfl⟩ := List.getElem_of_mem hy
  simpa using h i hi
set_option maxRecDepth 100000 in
set_option maxHeartbeats 2000000 in
theorem indexr_any (v u : Value) (ls : List (List UInt8)) (b : List UInt8) (B : Nat) (hsm : ls.length ≤ 1000000000) (w : World) (hx : Rws w v ls) (hu : Bys w u b) (hB : w.cell? ⟨B, 0, none⟩ = some u) :
    Calls Tryz.prog 73 #[v, .func (.func 46) #[] #[.pointer (some ⟨B, 0, none⟩)]] w fun e w' => ∃ r : Int, e = .returned (.int .i64 r) ∧ decide (0 ≤ r) = anyB ls b ∧ Below w.heap.size w w' := by
  obtain ⟨A, c, rfl⟩ := hx.form
  have HX := Lib.hid (And.intro hx (And.intro hu hB))
  have hBlt : B < w.heap.size := World.block_lt_of_cell? w _ hB
  clear hx hu hB
  go_enter Tryz.func73, Tryz.ntmps73
  go_wp2
  go_loopw [8] (fun v8 wr => ∃ k : Nat, v8 = .int .i64 k ∧ k ≤ ls.length ∧ Hid (Below w.heap.size w wr ∧ ∀ j (h : j < ls.length), j < k → ls[j] ≠ b)) (fun v _ => ls.length - (intOf v).toNat)
  case atStart => exact ⟨0, rfl, Nat.zero_le _, Lib.hid ⟨Below.refl _ _, fun j h hj => by omega⟩⟩
  case round =>
    obtain ⟨k, rfl, hk, HI⟩ := hrel
    by_cases hlt : k < ls.length
    · obtain ⟨g, o, un, rfl, hg, -, -, hcu, hbu⟩ := HX.out.1.at' k hlt
      have p0 := (HI.out.1.cell (p := ⟨g, o + k, none⟩) hg).trans hcu
      have HC := Lib.hid (right1_any un u ls[k] b B wr (hbu.below HI.out.1) (HX.out.2.1.below HI.out.1) ((HI.out.1.cell (p := ⟨B, 0, none⟩) hBlt).trans HX.out.2.2))
      obtain ⟨A9, c9, rfl⟩ := hbu.form
      clear hcu hbu
      by_cases h32 : ls[k] = b
      · have hnl : (ls[k] == b) = true := by simp [h32]
        have HF : Hid (anyB ls b = true) := Lib.hid (anyB_at k hlt h32)
        rw [hnl] at HC
        clear h32 hnl
        go_wp2_with (go_at_call 46; refine HC.out.mono ?_; rintro e w' ⟨rfl, rfl⟩)
        go_ret
        exact ⟨_, rfl, by rw [HF.out]; simp, HI.out.1⟩
      · have hnl : (ls[k] == b) = false := by simp [h32]
        have H32 := Lib.hid h32
        rw [hnl] at HC
        clear h32 hnl
        go_wp2_with (go_at_call 46; refine HC.out.mono ?_; rintro e w' ⟨rfl, rfl⟩)
        go_roundw
        case rel => exact ⟨k + 1, by go_num, by omega, Lib.hid ⟨HI.out.1, fun j h hj => by
          by_cases e : j = k
          · subst e; exact H32.out
          · exact HI.out.2 j h (by omega)⟩⟩
        case measure => simp [intOf]; omega
    · have HA : Hid (anyB ls b = false) := Lib.hid (anyB_no (fun j h => HI.out.2 j h (by omega)))
      go_wp2
      go_ret
      exact ⟨_, rfl, by rw [HA.out]; rfl, HI.out.1⟩
theorem containsr_any (v u : Value) (ls : List (List UInt8)) (b : List UInt8) (B : Nat) (hsm : ls.length ≤ 1000000000) (w : World) (hx : Rws w v ls) (hu : Bys w u b) (hB : w.cell? ⟨B, 0, none⟩ = some u) :
    Calls Tryz.prog 48 #[v, .func (.func 46) #[] #[.pointer (some ⟨B, 0, none⟩)]] w fun e w' => e = .returned (.bool (anyB ls b)) ∧ Below w.heap.size w w' := by
  have HI := Lib.hid (indexr_any v u ls b B hsm w hx hu hB)
  obtain ⟨A, c, rfl⟩ := hx.form
  clear hx hu hB
  go_enter Tryz.func48, Tryz.ntmps48
  go_wp2_with fail
  refine HI.out.mono ?_
  rintro e w1 ⟨r, rfl, h1, h2⟩
  have H1 := Lib.hid (And.intro h1 h2)
  clear h1 h2
  go_wp2
  go_ret
  exact ⟨by rw [← H1.out.1]; rfl, H1.out.2⟩
end Go.Proofs.YtlkgeifmppadmaaGreat
namespace Go.Proofs.YtlkgeifmppadmaaGreat
open Go.RowKit
set_option linter.unusedVariables false
set_option linter.unusedSimpArgs false

theorem Rws.take {w : World} {A : Option Addr} {n c : Nat} {ls : List (List UInt8)} (h : Rws w (.slice A n c) ls) (k : Nat) (hk : k ≤ ls.length) : Rws w (.slice A k c) (ls.take k) := by
  obtain ⟨us, h1, h2⟩ := h
  have hl := h1.1
  rcases Nat.eq_zero_or_pos ls.length with h0 | h0
  · obtain rfl : k = 0 := by omega
    exact ⟨[], ⟨by simp, .inl ⟨by simp, A, c, rfl⟩⟩, fun i hi => by simp at hi⟩
  · obtain ⟨g, o, rfl, rfl, h3, h4, h5, h6⟩ := h1.place h0
    have hp := Sho.piece h1 h0 0 k c (by omega) (by omega) h5
    simp only [Nat.zero_mul, Nat.add_zero, List.drop_zero, Nat.mul_one] at hp
    refine ⟨us.take k, ?_, fun i hi => ?_⟩
    · rw [List.length_take, Nat.min_eq_left hk]
      exact hp
    · rw [List.length_take] at hi
      obtain ⟨u, e, hu⟩ := h2 i (by omega)
      refine ⟨u, by rw [List.getElem?_take_of_lt (by omega)]; exact e, ?_⟩
      rw [List.getElem_take]
      exact hu
theorem Rws.room {w : World} {A : Option Addr} {n c : Nat} {ls : List (List UInt8)} (h : Rws w (.slice A n c) ls) (h0 : 0 < ls.length) : ls.length ≤ c ∧ c ≤ maxLen := by
  obtain ⟨us, h1, h2⟩ := h
  obtain ⟨g, o, rfl, rfl, h3, h4, h5, h6⟩ := h1.place h0
  exact ⟨h4, h5⟩
theorem key_any (A : Option Addr) (n c : Nat) (b : Bool) (hb : (((n : Nat) : Int) == 32) = b) (w : World) : Calls Tryz.prog 45 #[.slice A n c] w fun e w' => e = .returned (.bool b) ∧ w = w' := by
  go_enter Tryz.func45, Tryz.ntmps45
  go_wp2
  go_ret
  exact ⟨rfl, rfl⟩
set_option maxRecDepth 100000 in
set_option maxHeartbeats 4000000 in
theorem coright_any (v : Value) (p : PolD) (hl : p.log.length ≤ 1000000000) (hw : p.wits.length ≤ 1000000000) (hq : -1000000000 ≤ p.quorum ∧ p.quorum ≤ 1000000000) (w : World) (hv : PolV w v p) :
    Calls Tryz.prog 21 #[v] w fun e w' => e = .returned (.bool (polB p)) ∧ Below w.heap.size w w' := by
  obtain ⟨l, ws, rfl, h1, h2⟩ := hv
  obtain ⟨L, cl, rfl⟩ := h1.form
  obtain ⟨R, cr, rfl⟩ := h2.form
  have HPB : Hid (polB p = ((decide (p.log.length = 32) && decide (1 ≤ p.wits.length) && decide (p.wits.length ≤ 4) && decide (1 ≤ p.quorum) && decide (p.quorum ≤ (p.wits.length : Int))) && witsN p.wits p.wits.length)) := Lib.hid rfl
  have HX := Lib.hid (And.intro h1 h2)
  clear h1 h2
  generalize polB p = PB at *
  obtain ⟨log, wits, q⟩ := p
  obtain ⟨hq0, hq1⟩ := hq
  have hk0 := Blk.new w 29 [.slice L log.length cl, .slice R wits.length cr, .int .i64 q]
  have hb0 : Below w.heap.size w (w.alloc (.cells #[.slice L log.length cl, .slice R wits.length cr, .int .i64 q] 29)) := (Below.refl w.heap.size w).alloc (Nat.le_refl _) _
  have HW := Lib.hid (And.intro hk0 hb0)
  clear hk0 hb0
  go_enter Tryz.func21, Tryz.ntmps21
  by_cases k1 : log.length = 32
  · have n1 : (((log.length : Nat) : Int) == 32) = true := by simp [k1]
    have K1 := Lib.hid k1
    clear k1
    by_cases k2 : 1 ≤ wits.length
    · by_cases k3 : wits.length ≤ 4
      · by_cases k4 : 1 ≤ q
        · by_cases k5 : q ≤ (wits.length : Int)
          · have HP2 : Hid (PB = witsN wits wits.length) := Lib.hid (by rw [HPB.out]; simp [K1.out, k2, k3, k4, k5])
            clear HPB
            go_wp2
            refine code_at (fun w1 => Blk w1 w.heap.size 29 [.slice L log.length cl, .slice R wits.length cr, .int .i64 q] ∧ Below w.heap.size w w1) HW.out ?_
            intro w1 hw1
            have H1 := Lib.hid hw1
            have hsz1 := hw1.1.lt
            have q1 := hw1.1.cell 1 _ rfl
            clear hw1 HW
            go_wp2
            go_loopw [36] (fun v36 wr => ∃ k : Nat, v36 = .int .i64 k ∧ k ≤ wits.length ∧ Hid (Below w1.heap.size w1 wr ∧ witsN wits k = true)) (fun v _ => wits.length - (intOf v).toNat)
            case atStart => exact ⟨0, rfl, Nat.zero_le _, Lib.hid ⟨Below.refl _ _, rfl⟩⟩
            case round =>
              obtain ⟨k, rfl, hk, HI⟩ := hrel
              clear q1
              by_cases hlt : k < wits.length
              · have HRW := Lib.hid (HX.out.2.below H1.out.2)
                obtain ⟨g, o, u, rfl, hg, -, -, hcu, hbu⟩ := HRW.out.at' k hlt
                obtain ⟨hroom, hroom2⟩ := HRW.out.room (by omega)
                have p0 := (HI.out.1.cell (p := ⟨g, o + k, none⟩) hg).trans hcu
                have r1 := ((H1.out.1.below HI.out.1)).cell 1 _ rfl
                have hbw : w.heap.size < wr.heap.size := (H1.out.1.below HI.out.1).lt
                have hbn := hbu.below HI.out.1
                obtain ⟨A9, c9, rfl⟩ := hbn.form
                have HWS : Hid (witsN wits (k + 1) = (witsN wits k && (len32 wits[k] && !(anyB (wits.take k) wits[k])))) := Lib.hid (by
                  show (witsN wits k && (len32 (wits.getD k []) && !(anyB (wits.take k) (wits.getD k [])))) = _
                  rw [List.getD_eq_getElem?_getD, List.getElem?_eq_getElem hlt]; rfl)
                have HB := Lib.hid (And.intro hbn (HRW.out.below HI.out.1))
                have hszr := HI.out.1.size
                unfold maxLen at hroom2
                clear hcu hbu hbn
                by_cases h32 : wits[k].length = 32
                · have nk : (((wits[k].length : Nat) : Int) == 32) = true := by simp [h32]
                  have H32 : Hid (len32 wits[k] = true) := Lib.hid (by simp [len32, h32])
                  clear h32
                  have hal := (Below.refl wr.heap.size wr).alloc (Nat.le_refl _) (.cells #[.slice A9 wits[k].length c9] 26)
                  have hkB := Blk.new wr 26 [.slice A9 wits[k].length c9]
                  have HC := Lib.hid (containsr_any _ _ (wits.take k) wits[k] wr.heap.size (by rw [List.length_take]; omega) _ ((HB.out.2.take k hk).below hal) (HB.out.1.below hal) (hkB.cell 0 _ rfl))
                  have HAL := Lib.hid (HI.out.1.trans (hal.mono hszr))
                  have hsa := hal.size
                  clear hal hkB
                  generalize wits[k] = X at *
                  generalize anyB (wits.take k) X = AB at *
                  cases AB with
                  | true =>
                    have HF : Hid (PB = false) := Lib.hid (by rw [HP2.out]; exact witsN_mono wits (k + 1) (by rw [HWS.out]; simp) _ (by omega))
                    go_wp2_with (first | (go_at_call 45; refine (key_any _ _ _ true nk _).mono ?_; rintro e w' ⟨rfl, rfl⟩) | (go_at_call 48; refine HC.out.mono ?_; rintro e w2 ⟨rfl, h2⟩; have H2 := Lib.hid (HAL.out.trans (h2.mono (Nat.le_trans hszr hsa))); clear h2))
                    go_ret
                    exact ⟨by rw [HF.out]; rfl, H1.out.2.trans (H2.out.mono H1.out.2.size)⟩
                  | false =>
                    have HT : Hid (witsN wits (k + 1) = true) := Lib.hid (by rw [HWS.out, HI.out.2, H32.out]; rfl)
                    go_wp2_with (first | (go_at_call 45; refine (key_any _ _ _ true nk _).mono ?_; rintro e w' ⟨rfl, rfl⟩) | (go_at_call 48; refine HC.out.mono ?_; rintro e w2 ⟨rfl, h2⟩; have H2 := Lib.hid (HAL.out.trans (h2.mono (Nat.le_trans hszr hsa))); clear h2))
                    go_roundw
                    case rel => exact ⟨k + 1, by go_num, by omega, Lib.hid ⟨H2.out, HT.out⟩⟩
                    case measure => simp [intOf]; omega
                · have nk : (((wits[k].length : Nat) : Int) == 32) = false := by simp; omega
                  have HF : Hid (PB = false) := Lib.hid (by rw [HP2.out]; exact witsN_mono wits (k + 1) (by rw [HWS.out]; simp [len32, h32]) _ (by omega))
                  have HAL := Lib.hid (HI.out.1.alloc hszr (.cells #[.slice A9 wits[k].length c9] 26))
                  clear h32
                  go_wp2
                  go_ret
                  exact ⟨by rw [HF.out]; rfl, H1.out.2.trans (HAL.out.mono H1.out.2.size)⟩
              · have HT : Hid (PB = true) := Lib.hid (by
                  obtain rfl : k = wits.length := by omega
                  rw [HP2.out]; exact HI.out.2)
                have hnl : ¬ (k : Int) < (wits.length : Int) := by omega
                clear hlt
                go_wp2
                go_ret
                exact ⟨by rw [HT.out]; rfl, H1.out.2.trans (HI.out.1.mono H1.out.2.size)⟩
          · have HT : Hid (PB = false) := Lib.hid (by rw [HPB.out]; simp [k5])
            go_wp2
            go_ret
            exact ⟨by rw [HT.out]; rfl, HW.out.2⟩
        · have HT : Hid (PB = false) := Lib.hid (by rw [HPB.out]; simp [k4])
          go_wp2
          go_ret
          exact ⟨by rw [HT.out]; rfl, HW.out.2⟩
      · have HT : Hid (PB = false) := Lib.hid (by rw [HPB.out]; simp [k3])
        go_wp2
        go_ret
        exact ⟨by rw [HT.out]; rfl, HW.out.2⟩
    · have HT : Hid (PB = false) := Lib.hid (by rw [HPB.out]; simp [k2])
      go_wp2
      go_ret
      exact ⟨by rw [HT.out]; rfl, HW.out.2⟩
  · have n1 : (((log.length : Nat) : Int) == 32) = false := by simp; omega
    have HT : Hid (PB = false) := Lib.hid (by rw [HPB.out]; simp [k1])
    clear k1
    go_wp2
    go_ret
    exact ⟨by rw [HT.out]; rfl, HW.out.2⟩
end Go.Proofs.YtlkgeifmppadmaaGreat
namespace Go.Proofs.YtlkgeifmppadmaaGreat
open Go.RowKit
set_option linter.unusedVariables false
set_option linter.unusedSimpArgs false

theorem far3 (w : World) (b : Nat) (u0 u1 u2 : Value) (a : Addr) (h : b ≠ a.block) : (((w.setCell ⟨b, 0, none⟩ u0).setCell ⟨b, 1, none⟩ u1).setCell ⟨b, 2, none⟩ u2).cell? a = w.cell? a := by
  rw [World.cell?_setCell_far _ _ _ _ h, World.cell?_setCell_far _ _ _ _ h, World.cell?_setCell_far _ _ _ _ h]
theorem under_policy : Tryz.prog.underlying 29 = some (.struct (Tryz.prog.fieldsOf 29)) := by kernel_rfl
theorem size_policy : (Tryz.prog.info? 29).map (·.size) = some 3 := by kernel_rfl
def RetPol (w : World) (p : PolD) (e : Ending) (w' : World) : Prop := ∃ v, e = .returned v ∧ PolF (Fresh w w') w' v p ∧ Below w.heap.size w w'
def SmallPol (p : PolD) : Prop := p.log.length ≤ 1000000000 ∧ p.wits.length ≤ 1000000000 ∧ (∀ i (h : i < p.wits.length), p.wits[i].length ≤ 1000000000) ∧ -1000000000 ≤ p.quorum ∧ p.quorum ≤ 1000000000
theorem OwnR.chgT {w w1 : World} {base : Nat} {v : Value} {ls : List (List UInt8)} {T : Nat → Prop} (h : OwnR w base v ls) (hc : Chg w w1 T) (hT : ∀ g, base ≤ g → g < w.heap.size → ¬ T g) : OwnR w1 base v ls := by
  have hf := h.foot
  obtain ⟨us, h1, h2⟩ := h
  refine ⟨us, ownsRow_chg h1 hc (fun k hk => hT k (World.ownsRow.lt h1 k hk).1 (World.ownsRow.lt h1 k hk).2), fun i hi => ?_⟩
  obtain ⟨u, e, hu, hn⟩ := h2 i hi
  exact ⟨u, e, Sho.chgF hu (S := fun g => base ≤ g ∧ g < w.heap.size) (fun h0 g hg => ⟨(hn h0).2 g hg, Sho.lt hu h0 g hg⟩) hc (fun g hg => hT g hg.1 hg.2), hn⟩
/-- The state of the copy: its block C, its row. -/
def PolSt (w0 W wr : World) (C : Nat) (lv : Value) (q : Int) (ls : List (List UInt8)) : Prop :=
  Chg W wr (fun k => k = C ∨ W.heap.size ≤ k) ∧ ∃ rv, Blk wr C 29 [lv, rv, .int .i64 q] ∧ OwnR wr W.heap.size rv ls
set_option maxRecDepth 100000 in
set_option maxHeartbeats 8000000 in
theorem fpolicy_any (v : Value) (p : PolD) (hs : SmallPol p) (w : World) (hv : PolV w v p) :
    Calls Tryz.prog 22 #[v] w (RetPol w p) := by
  obtain ⟨i0, hi0, hz0, hz1, hz2⟩ := info_parts info_bytes
  obtain ⟨l, ws, rfl, h1, h2⟩ := hv
  obtain ⟨L, cl, rfl⟩ := h1.form
  obtain ⟨R, cr, rfl⟩ := h2.form
  have HX := Lib.hid (And.intro h1 h2)
  clear h1 h2
  obtain ⟨log, wits, q⟩ := p
  obtain ⟨hs1, hs2, hs3, hs4, hs5⟩ := hs
  change log.length ≤ 1000000000 at hs1
  change wits.length ≤ 1000000000 at hs2
  change ∀ i (h : i < wits.length), wits[i].length ≤ 1000000000 at hs3
  change -1000000000 ≤ q at hs4
  change q ≤ 1000000000 at hs5
  have HC1 := Lib.hid (fun wz hz => clone_any (.slice L log.length cl) log (show log.length ≤ 1000000000000 by omega) wz hz)
  have HC2 := Lib.hid (fun (i : Nat) (hi : i < wits.length) (u : Value) (wz : World) (hz : Bys wz u wits[i]) => clone_any u wits[i] (show wits[i].length ≤ 1000000000000 by have := hs3 i hi; omega) wz hz)
  have HS3 := Lib.hid hs3
  clear hs3
  obtain ⟨k0, k1, kb⟩ := two_of (w := w) [.slice L log.length cl, .slice R wits.length cr, .int .i64 q] [.slice none 0 0, .slice none 0 0, .int .i64 0] 29 29
  have HW := Lib.hid (And.intro k0 (And.intro k1 kb))
  clear k0 k1 kb
  go_enter Tryz.func22, Tryz.ntmps22
  go_wp2
  refine code_at (fun w1 => Blk w1 w.heap.size 29 [.slice L log.length cl, .slice R wits.length cr, .int .i64 q] ∧ Blk w1 (w.heap.size + 1) 29 [.slice none 0 0, .slice none 0 0, .int .i64 0] ∧ Below w.heap.size w w1) HW.out ?_
  rintro w1 ⟨k0, k1, kb⟩
  have H1 := Lib.hid (And.intro k0 (And.intro k1 kb))
  have c0 := k0.cell 0 _ rfl
  have c1 := k0.cell 1 _ rfl
  have c2 := k0.cell 2 _ rfl
  have hsz1 := k1.lt
  clear k0 k1 kb HW
  refine wp_region_held_drew (S := fun w' => w'.cell? ⟨w.heap.size, 0, none⟩ = some (.slice L log.length cl) ∧ w'.cell? ⟨w.heap.size, 2, none⟩ = some (.int .i64 q)) (by kernel_rfl) ?_ (fun hHeld => ?_)
  · exact ⟨c0, c2⟩
  refine take_yes 0 6 rfl rfl (by kernel_rfl) (by kernel_rfl) (by kernel_rfl) (fun _ _ _ h => h) (by assumption) (by rfl) (v := ?_) ?_ ?_
  rotate_left 1
  · (intro w hSw; (try dsimp only at hSw); go_simp; try with_reducible rfl)
  simp only [List.setIfInBounds_toArray, List.set_cons_zero, List.set_cons_succ]
  refine take_yes 1 7 rfl rfl (by kernel_rfl) (by kernel_rfl) (by kernel_rfl) (fun _ _ _ h => h) (by assumption) (by rfl) (v := ?_) ?_ ?_
  rotate_left 1
  · (intro w hSw; (try dsimp only at hSw); go_simp; try with_reducible rfl)
  simp only [List.setIfInBounds_toArray, List.set_cons_zero, List.set_cons_succ]
  refine take_yes 3 9 rfl rfl (by kernel_rfl) (by kernel_rfl) (by kernel_rfl) (fun _ _ _ h => h) (by assumption) (by rfl) (v := ?_) ?_ ?_
  rotate_left 1
  · (intro w hSw; (try dsimp only at hSw); go_simp; try with_reducible rfl)
  simp only [List.setIfInBounds_toArray, List.set_cons_zero, List.set_cons_succ]
  refine take_yes 4 10 rfl rfl (by kernel_rfl) (by kernel_rfl) (by kernel_rfl) (fun _ _ _ h => h) (by assumption) (by rfl) (v := ?_) ?_ ?_
  rotate_left 1
  · (intro w hSw; (try dsimp only at hSw); go_simp; try with_reducible rfl)
  simp only [List.setIfInBounds_toArray, List.set_cons_zero, List.set_cons_succ]
  refine wpAnyH_ready (rs := [2, 6]) (by kernel_rfl) (by simp) ?_
  refine AllReadyH.cons rfl (fun K hK => ?w1_2) (AllReadyH.cons rfl (fun K hK => ?w1_6) AllReadyH.nil)
  case' w1_6 =>
    -- 6:  dst := some 3, op := Op.alloc 33, type := 0
    go_simp
    have hba := ((Below.refl w1.heap.size w1).alloc (Nat.le_refl _) (.cells #[.slice none 0 0, .slice none 0 0, .int .i64 0] 29)).drew
    have hkc : Blk (w1.alloc (.cells #[.slice none 0 0, .slice none 0 0, .int .i64 0] 29)).drew w1.heap.size 29 [.slice none 0 0, .slice none 0 0, .int .i64 0] := (Blk.new w1 29 [.slice none 0 0, .slice none 0 0, .int .i64 0]).drew
    have HBA := Lib.hid (And.intro hba hkc)
    clear hba hkc
    refine hK.out _ _ ⟨by go_keep, by go_keep⟩ (fun hHeld6 => ?_)
    clear hK K
    try simp only [Act.put, List.setIfInBounds_toArray, List.set_cons_zero, List.set_cons_succ]
    refine wpAnyH_ready (rs := [2]) (by kernel_rfl) (by simp) ?_
    refine AllReadyH.cons rfl (fun K hK => ?_) AllReadyH.nil
    -- 2:  dst := some 8, op := Op.call  callee := Callee.value (Operand.func 48), args := #[Operand.tmp 7], argTypes := #[30] , type := 
    go_simp
    go_at_call 49
    refine (HC1.out _ (HX.out.1.below ((H1.out.2.2.trans (HBA.out.1.mono H1.out.2.2.size))))).mono ?_
    rintro e w2 ⟨v2, rfl, h2, h3⟩
    obtain ⟨A2, n2, rfl⟩ := h2.form
    have hz3 : w1.heap.size + 1 ≤ w2.heap.size := by have := h3.size; simpa using this
    have hf2 : BysF (fun g => w1.heap.size + 1 ≤ g ∧ g < w2.heap.size) w2 (.slice A2 log.length n2) log := h2.foot.mono (fun g hg => ⟨by have := hg.1; simpa using this, hg.2⟩)
    have hb2 : Below w1.heap.size w1 w2 := HBA.out.1.trans (h3.mono HBA.out.1.size)
    have hkc := HBA.out.2.below h3
    have k0 := H1.out.1.below hb2
    have e0 := k0.cell 0 _ rfl
    have e2 := k0.cell 2 _ rfl
    have j0 := hkc.cell 0 _ rfl
    have j1 := hkc.cell 1 _ rfl
    have j2 := hkc.cell 2 _ rfl
    have g0 := hkc.free 0
    have g1 := hkc.free 1
    have g2 := hkc.free 2
    have H2 := Lib.hid (And.intro hf2 (And.intro hb2 (And.intro k0 hkc)))
    clear h2 h3 hb2 k0 hkc hf2
    go_wp2_with fail
    refine hK.out _ _ ⟨e0, e2⟩ (fun hHeld2 => ?_)
    clear hK K
    try simp only [Act.put, List.setIfInBounds_toArray, List.set_cons_zero, List.set_cons_succ]
    refine take_yes 5 11 rfl rfl (by kernel_rfl) (by kernel_rfl) (by kernel_rfl) (fun _ _ _ h => h) (by assumption) (by rfl) (v := ?_) ?_ ?_
    rotate_left 1
    · (intro w hSw; (try dsimp only at hSw); go_simp; try with_reducible rfl)
    simp only [List.setIfInBounds_toArray, List.set_cons_zero, List.set_cons_succ]
    refine wpAnyH_ready (rs := [7]) (by kernel_rfl) (by simp) ?_
    refine AllReadyH.cons rfl (fun K hK => ?_) AllReadyH.nil
    -- 7:  dst := none, op := Op.store 33 (Operand.tmp 3) (Operand.tmp 11), type := 0
    go_simp
    refine hK.out _ _ ⟨(far3 w2 w1.heap.size _ _ _ ⟨w.heap.size, 0, none⟩ (by show w1.heap.size ≠ w.heap.size; omega)).trans e0, (far3 w2 w1.heap.size _ _ _ ⟨w.heap.size, 2, none⟩ (by show w1.heap.size ≠ w.heap.size; omega)).trans e2⟩ (fun hHeld7 => ?_)
    clear hK K
    try simp only [Act.put, List.setIfInBounds_toArray, List.set_cons_zero, List.set_cons_succ]
    refine wpAnyH_done (by kernel_rfl) ?_ _
    have HR : Hid (Below w.heap.size w (((w2.setCell ⟨w1.heap.size, 0, none⟩ (.slice A2 log.length n2)).setCell ⟨w1.heap.size, 1, none⟩ (.slice none 0 0)).setCell ⟨w1.heap.size, 2, none⟩ (.int .i64 q)) ∧ Blk (((w2.setCell ⟨w1.heap.size, 0, none⟩ (.slice A2 log.length n2)).setCell ⟨w1.heap.size, 1, none⟩ (.slice none 0 0)).setCell ⟨w1.heap.size, 2, none⟩ (.int .i64 q)) (w.heap.size + 1) 29 [.slice none 0 0, .slice none 0 0, .int .i64 0] ∧ Blk (((w2.setCell ⟨w1.heap.size, 0, none⟩ (.slice A2 log.length n2)).setCell ⟨w1.heap.size, 1, none⟩ (.slice none 0 0)).setCell ⟨w1.heap.size, 2, none⟩ (.int .i64 q)) w.heap.size 29 [.slice L log.length cl, .slice R wits.length cr, .int .i64 q] ∧ Blk (((w2.setCell ⟨w1.heap.size, 0, none⟩ (.slice A2 log.length n2)).setCell ⟨w1.heap.size, 1, none⟩ (.slice none 0 0)).setCell ⟨w1.heap.size, 2, none⟩ (.int .i64 q)) w1.heap.size 29 [.slice A2 log.length n2, .slice none 0 0, .int .i64 q] ∧ BysF (fun g => w.heap.size + 1 < g ∧ g ≠ w1.heap.size ∧ g < (((w2.setCell ⟨w1.heap.size, 0, none⟩ (.slice A2 log.length n2)).setCell ⟨w1.heap.size, 1, none⟩ (.slice none 0 0)).setCell ⟨w1.heap.size, 2, none⟩ (.int .i64 q)).heap.size) (((w2.setCell ⟨w1.heap.size, 0, none⟩ (.slice A2 log.length n2)).setCell ⟨w1.heap.size, 1, none⟩ (.slice none 0 0)).setCell ⟨w1.heap.size, 2, none⟩ (.int .i64 q)) (.slice A2 log.length n2) log ∧ w.heap.size + 1 < w1.heap.size) :=
      have hz := H2.out.2.1.size
      have hc : Chg w2 (((w2.setCell ⟨w1.heap.size, 0, none⟩ (.slice A2 log.length n2)).setCell ⟨w1.heap.size, 1, none⟩ (.slice none 0 0)).setCell ⟨w1.heap.size, 2, none⟩ (.int .i64 q)) (fun k => k = w1.heap.size) := chg_cell (chg_cell (chg_cell (Chg.refl w2 _) 0 _) 1 _) 2 _
      Lib.hid ⟨(H1.out.2.2.trans (H2.out.2.1.mono H1.out.2.2.size)).trans (hc.below (by have := H1.out.2.2.size; omega) (fun k hk => by omega)), (H1.out.2.1.below H2.out.2.1).chg hc (by omega), H2.out.2.2.1.chg hc (by omega), ((H2.out.2.2.2.set 0 _ (by simp)).set 1 _ (by simp)).set 2 _ (by simp), (H2.out.1.chg hc (fun g hg e => by have := hg.1; omega)).mono (fun g hg => ⟨by have := hg.1; omega, by have := hg.1; omega, by have := hg.2; have := hc.size; omega⟩), hsz1⟩
    generalize ((w2.setCell ⟨w1.heap.size, 0, none⟩ (.slice A2 log.length n2)).setCell ⟨w1.heap.size, 1, none⟩ (.slice none 0 0)).setCell ⟨w1.heap.size, 2, none⟩ (.int .i64 q) = W at *
    generalize w1.heap.size = C at *
    clear H1 H2 HBA hHeld hHeld2 hHeld6 hHeld7 e0 e2 c0 c1 c2 j0 j1 j2 g0 g1 g2 hz3
  case' w1_2 =>
    -- 2:  dst := some 8, op := Op.call  callee := Callee.value (Operand.func 48), args := #[Operand.tmp 7], argTypes := #[30] , type := 
    go_simp
    go_at_call 49
    refine (HC1.out w1.drew (HX.out.1.below H1.out.2.2.drew)).mono ?_
    rintro e w2 ⟨v2, rfl, h2, h3⟩
    obtain ⟨A2, n2, rfl⟩ := h2.form
    have hb2 : Below w1.heap.size w1 w2 := ⟨h3.os, h3.tape, h3.output, h3.size, h3.block⟩
    have k0 := H1.out.1.below hb2
    have e0 := k0.cell 0 _ rfl
    have e2 := k0.cell 2 _ rfl
    have hbw2 : w.heap.size < w2.heap.size := k0.lt
    have H2 := Lib.hid (And.intro (show BysF (fun g => w1.heap.size ≤ g ∧ g < w2.heap.size) w2 _ log from h2.foot) (And.intro hb2 k0))
    clear h2 h3 hb2 k0
    go_wp2_with fail
    refine hK.out _ _ ⟨e0, e2⟩ (fun hHeld2 => ?_)
    clear hK K
    try simp only [Act.put, List.setIfInBounds_toArray, List.set_cons_zero, List.set_cons_succ]
    refine take_yes 5 11 rfl rfl (by kernel_rfl) (by kernel_rfl) (by kernel_rfl) (fun _ _ _ h => h) (by assumption) (by rfl) (v := ?_) ?_ ?_
    rotate_left 1
    · (intro w hSw; (try dsimp only at hSw); go_simp; try with_reducible rfl)
    simp only [List.setIfInBounds_toArray, List.set_cons_zero, List.set_cons_succ]
    refine wpAnyH_ready (rs := [6]) (by kernel_rfl) (by simp) ?_
    refine AllReadyH.cons rfl (fun K hK => ?_) AllReadyH.nil
    -- 6:  dst := some 3, op := Op.alloc 33, type := 0
    go_simp
    refine hK.out _ _ ⟨by go_keep, by go_keep⟩ (fun hHeld6 => ?_)
    clear hK K
    try simp only [Act.put, List.setIfInBounds_toArray, List.set_cons_zero, List.set_cons_succ]
    refine wpAnyH_ready (rs := [7]) (by kernel_rfl) (by simp) ?_
    refine AllReadyH.cons rfl (fun K hK => ?_) AllReadyH.nil
    -- 7:  dst := none, op := Op.store 33 (Operand.tmp 3) (Operand.tmp 11), type := 0
    go_simp
    refine hK.out _ _ ⟨by go_keep, by go_keep⟩ (fun hHeld7 => ?_)
    clear hK K
    try simp only [Act.put, List.setIfInBounds_toArray, List.set_cons_zero, List.set_cons_succ]
    refine wpAnyH_done (by kernel_rfl) ?_ _
    have HR : Hid (Below w.heap.size w (w2.alloc (.cells #[.slice A2 log.length n2, .slice none 0 0, .int .i64 q] 29)) ∧ Blk (w2.alloc (.cells #[.slice A2 log.length n2, .slice none 0 0, .int .i64 q] 29)) (w.heap.size + 1) 29 [.slice none 0 0, .slice none 0 0, .int .i64 0] ∧ Blk (w2.alloc (.cells #[.slice A2 log.length n2, .slice none 0 0, .int .i64 q] 29)) w.heap.size 29 [.slice L log.length cl, .slice R wits.length cr, .int .i64 q] ∧ Blk (w2.alloc (.cells #[.slice A2 log.length n2, .slice none 0 0, .int .i64 q] 29)) w2.heap.size 29 [.slice A2 log.length n2, .slice none 0 0, .int .i64 q] ∧ BysF (fun g => w.heap.size + 1 < g ∧ g ≠ w2.heap.size ∧ g < (w2.alloc (.cells #[.slice A2 log.length n2, .slice none 0 0, .int .i64 q] 29)).heap.size) (w2.alloc (.cells #[.slice A2 log.length n2, .slice none 0 0, .int .i64 q] 29)) (.slice A2 log.length n2) log ∧ w.heap.size + 1 < w2.heap.size) :=
      have hz := H2.out.2.1.size
      have ha := (Below.refl w2.heap.size w2).alloc (Nat.le_refl _) (.cells #[.slice A2 log.length n2, .slice none 0 0, .int .i64 q] 29)
      Lib.hid ⟨(H1.out.2.2.trans (H2.out.2.1.mono H1.out.2.2.size)).trans (ha.mono (by have := H1.out.2.2.size; omega)), (H1.out.2.1.below H2.out.2.1).below ha, H2.out.2.2.below ha, Blk.new w2 29 [.slice A2 log.length n2, .slice none 0 0, .int .i64 q], (H2.out.1.below ha).mono (fun g hg => ⟨by omega, by omega, by have := ha.size; omega⟩), by omega⟩
    generalize w2.alloc (.cells #[.slice A2 log.length n2, .slice none 0 0, .int .i64 q] 29) = W at *
    generalize w2.heap.size = C at *
    clear H1 H2 hHeld hHeld2 hHeld6 hHeld7 e0 e2 hbw2 c0 c1 c2
  all_goals
    have hCl := HR.out.2.2.2.1.lt
    have hBl := HR.out.2.2.1.lt
    have q1 := HR.out.2.2.1.cell 1 _ rfl
    go_wp2
    go_loopw [15] (fun v15 wr => ∃ k : Nat, v15 = .int .i64 k ∧ k ≤ wits.length ∧ Hid (PolSt w W wr C (.slice A2 log.length n2) q (wits.take k))) (fun v _ => wits.length - (intOf v).toNat)
    case atStart => exact ⟨0, rfl, Nat.zero_le _, Lib.hid ⟨Chg.refl _ _, _, HR.out.2.2.2.1, OwnR.nil _ _⟩⟩
    case round =>
      obtain ⟨k, rfl, hk, HJ⟩ := hrel
      clear q1
      by_cases hlt : k < wits.length
      · obtain ⟨g, o, u, rfl, hg, -, -, hcu, hbu⟩ := HX.out.2.at' k hlt
        have HBel := Lib.hid (HR.out.1.trans (HJ.out.1.below (B := w.heap.size) HR.out.1.size (fun k hk => by have := HR.out.1.size; have := HR.out.2.2.2.2.2; omega)))
        have p0 := (HBel.out.cell (p := ⟨g, o + k, none⟩) hg).trans hcu
        obtain ⟨A9, c9, rfl⟩ := hbu.form
        have HCL := Lib.hid (fun (wz : World) (hz : Below w.heap.size w wz) => HC2.out k hlt _ wz (hbu.below hz))
        have HT : Hid (wits.take (k + 1) = wits.take k ++ [wits[k]]) := Lib.hid (List.take_succ_eq_append_getElem hlt)
        have hal : (wits.take k).length ≤ 1000000000 := by rw [List.length_take]; omega
        have hXl := HS3.out k hlt
        obtain ⟨hch, rv, hkC, hor⟩ := HJ.out
        obtain ⟨A8, c8, rfl⟩ := hor.rws.form
        have r1 := hkC.cell 1 _ rfl
        have hCr := hkC.lt
        have hWr := hch.size
        have HK := Lib.hid (And.intro hch (And.intro hkC hor))
        clear hcu hbu hch hkC hor HJ
        generalize wits[k] = X at *
        generalize wits.take k = Ls at *
        go_wp2
        go_region_law (first
          | (go_simp; go_at_call 49; refine (HCL.out wr.drew HBel.out.drew).mono ?_
             rintro e w2 ⟨v2, rfl, h2, h3⟩
             obtain ⟨A5, c5, rfl⟩ := h2.form
             have hb2 : Below wr.heap.size wr w2 := ⟨h3.os, h3.tape, h3.output, h3.size, h3.block⟩
             have hk2 := HK.out.2.1.below hb2
             have s1 := hk2.cell 1 _ rfl
             have hlt2 := hk2.lt
             obtain ⟨us, hu1, hu2⟩ := HK.out.2.2.keep hb2
             have H2 := Lib.hid (And.intro (show OwnB w2 wr.heap.size (.slice A5 X.length c5) X from h2) (And.intro hb2 (And.intro hk2 (And.intro hu1 hu2))))
             have hsz2 := hb2.size
             clear h2 h3 hb2 hk2 hu1 hu2)
          | (refine step_append_lies _ rfl (.tmp 20) (.tmp 23) 27 rfl W.heap.size 26 i0 (.slice none 0 0) 1 24 Tryz.underlying27 hi0 hz0 hz1 hz2 rfl (by decide) _ Ls.length us rfl (World.ownsRow.alloc H2.out.2.2.2.1 _) ⟨w2.heap.size, 0, none⟩ 1 1 [.slice A5 X.length c5] rfl rfl (World.news_of_block (blk_new _ _)) (by simp [Value.oneCell']) (by decide) (by unfold maxLen; omega) (by omega) (by simp; omega) (w2.heap.size + 1) (by simp) ?_
             intro g3 c3 W3 hown3 hgrow3 hlie3 hlt3
             have HR3 := retr_push HK.out.2.2 hWr H2.out.2.1 H2.out.1 H2.out.2.2.2.2 (by have := H2.out.2.2.2.1.1; omega) hown3 hgrow3 hlie3
             have hgr : Chg wr W3 (fun k => W.heap.size ≤ k) := chg_belowB HR3.2
             have H3 : Hid (OwnR W3 W.heap.size (.slice (some ⟨g3, 0, none⟩) (Ls.length + 1) c3) (Ls ++ [X]) ∧ Blk W3 C 29 [.slice A2 log.length n2, .slice A8 Ls.length c8, .int .i64 q] ∧ Chg wr W3 (fun k => W.heap.size ≤ k)) := Lib.hid ⟨HR3.1, HK.out.2.1.chg hgr (by omega), hgr⟩
             have t1 := H3.out.2.1.cell 1 _ rfl
             have f1 := H3.out.2.1.free 1
             clear hown3 hgrow3 hlie3 HR3 hgr))
        all_goals
          have hset : Chg W3 (W3.setCell ⟨C, 1, none⟩ (.slice (some ⟨g3, 0, none⟩) (Ls.length + 1) c3)) (fun k => k = C) := chg_cell (Chg.refl W3 _) 1 _
          have HN : Hid (PolSt w W (W3.setCell ⟨C, 1, none⟩ (.slice (some ⟨g3, 0, none⟩) (Ls.length + 1) c3)) C (.slice A2 log.length n2) q (Ls ++ [X])) := Lib.hid ⟨(HK.out.1.trans (H3.out.2.2) (fun i _ h => .inr h)).trans hset (fun i _ h => .inl h), _, H3.out.2.1.set 1 _ (by simp), H3.out.1.chgT hset (fun g hg _ e => by omega)⟩
          clear hset t1 f1
          go_wp2
          go_roundw
          case rel => exact ⟨k + 1, by go_num, by omega, by rw [HT.out]; exact HN⟩
          case measure => simp [intOf]; omega
      · obtain rfl : k = wits.length := by omega
        have HP : Hid (PolSt w W wr C (.slice A2 log.length n2) q wits) := Lib.hid (by have h := HJ.out; rwa [List.take_length] at h)
        obtain ⟨hch, rv, hkC, hor⟩ := HP.out
        obtain ⟨A8, c8, rfl⟩ := hor.rws.form
        have r0 := hkC.cell 0 _ rfl
        have r1 := hkC.cell 1 _ rfl
        have r2 := hkC.cell 2 _ rfl
        have hkZ := HR.out.2.1.chg hch (by have := HR.out.2.1.lt; have := HR.out.2.2.2.2.2; omega)
        have z0 := hkZ.cell 0 _ rfl
        have z1 := hkZ.cell 1 _ rfl
        have z2 := hkZ.cell 2 _ rfl
        have y0 := hkZ.free 0
        have y1 := hkZ.free 1
        have y2 := hkZ.free 2
        have HK := Lib.hid (And.intro hch (And.intro hkZ (And.intro hor (HR.out.2.2.2.2.1.chg hch (fun g hg e => by
          rcases e with e | e
          · exact hg.2.1 e
          · exact absurd hg.2.2 (by omega))))))
        have hWr := hch.size
        have hWw := HR.out.1.size
        have hCr := hkC.lt
        clear hch hkC hor hkZ HJ HP
        go_wp2
        have hfc : Chg wr (((wr.setCell ⟨w.heap.size + 1, 0, none⟩ (.slice A2 log.length n2)).setCell ⟨w.heap.size + 1, 1, none⟩ (.slice A8 wits.length c8)).setCell ⟨w.heap.size + 1, 2, none⟩ (.int .i64 q)) (fun k => k = w.heap.size + 1) := chg_cell (chg_cell (chg_cell (Chg.refl wr _) 0 _) 1 _) 2 _
        have hfin : Blk (((wr.setCell ⟨w.heap.size + 1, 0, none⟩ (.slice A2 log.length n2)).setCell ⟨w.heap.size + 1, 1, none⟩ (.slice A8 wits.length c8)).setCell ⟨w.heap.size + 1, 2, none⟩ (.int .i64 q)) (w.heap.size + 1) 29 [.slice A2 log.length n2, .slice A8 wits.length c8, .int .i64 q] := ((HK.out.2.1.set 0 _ (by simp)).set 1 _ (by simp)).set 2 _ (by simp)
        refine bodyPost_ret (v := .agg [.slice A2 log.length n2, .slice A8 wits.length c8, .int .i64 q].toArray) ?_ ?_ ⟨_, rfl, ⟨_, _, rfl, ?_, ?_⟩, ?_⟩
        · exact results_cell_row Tryz.results22 _ _ (w.heap.size + 1) 29 _ (0, 0) _ rfl hfin under_policy rfl size_policy
        · rfl
        · exact (HK.out.2.2.2.chg hfc (fun g hg e => by have h1 : w.heap.size + 1 < g := hg.1; have h2 : g = w.heap.size + 1 := e; omega)).mono (fun g hg => ⟨by have h1 : w.heap.size + 1 < g := hg.1; omega, by have h1 : g < W.heap.size := hg.2.2; have := hfc.size; omega⟩)
        · exact (HK.out.2.2.1.foot.chg hfc (fun g hg e => by have h1 : W.heap.size ≤ g := hg.1; have h2 : g = w.heap.size + 1 := e; have h3 := HR.out.2.1.lt; omega)).mono (fun g hg => ⟨by have h1 : W.heap.size ≤ g := hg.1; omega, by have h1 : g < wr.heap.size := hg.2; have := hfc.size; omega⟩)
        · exact (HR.out.1.trans (HK.out.1.below hWw (fun k hk => by have h9 := HR.out.2.2.2.2.2; rcases hk with e | e <;> omega))).trans (hfc.below (by omega) (fun k hk => by omega))
end Go.Proofs.YtlkgeifmppadmaaGreat
namespace Go.Proofs.YtlkgeifmppadmaaGreat
open Go.RowKit
set_option linter.unusedVariables false
set_option linter.unusedSimpArgs false

def cgVerB (p : PolD) (c : CkD) (g : CgD) : Bool := polB p && (ckB c && (decide (0 ≤ g.wit) && (decide (g.wit < (p.wits.length : Int)) && verifyB (p.wits.getD g.wit.toNat []) (bodyS tagCo c) g.sig)))
theorem Rws.get {w : World} {A : Option Addr} {n c : Nat} {ls : List (List UInt8)} (h : Rws w (.slice A n c) ls) (i : Nat) (hi : i < ls.length) : ∃ g o u, A = some ⟨g, o, none⟩ ∧ g < w.heap.size ∧ n = ls.length ∧ ls.length ≤ c ∧ w.cell? ⟨g, o + i, none⟩ = some u ∧ Bys w u (ls.getD i []) := by
  obtain ⟨us, h1, h2⟩ := h
  obtain ⟨u, e, hu⟩ := h2 i hi
  obtain ⟨g, o, e1, e2, h3, h4, _, h5⟩ := h1.place (by omega)
  exact ⟨g, o, u, e1, h3, e2, h4, h5 i _ e, by rw [List.getD_eq_getElem?_getD, List.getElem?_eq_getElem hi]; exact hu⟩
set_option maxRecDepth 100000 in
set_option maxHeartbeats 8000000 in
theorem pcgverify_any (vp vc vg : Value) (p : PolD) (c : CkD) (g : CgD) (hp : SmallPol p) (hr : c.root.length ≤ 100000000) (hs : SmallSig g.sig) (w : World) (hvp : PolV w vp p) (hvc : CkV w vc c) (hvg : CgV w vg g) :
    Calls Tryz.prog 30 #[vp, vc, vg] w fun e w' => e = .returned (.bool (cgVerB p c g)) ∧ Below w.heap.size w w' := by
  have HPR := Lib.hid (fun (wz : World) (v : Value) (hz : PolV wz v p) => coright_any v p hp.1 hp.2.1 hp.2.2.2 wz hz)
  have HCR := Lib.hid (fun (wz : World) (v : Value) (hz : CkV wz v c) => pckright_any v c (by omega) wz hz)
  have HBD := Lib.hid (fun (wz : World) (v : Value) (hz : CkV wz v c) => pckcosign_any v c hr wz hz)
  have HBL : Hid ((bodyS tagCo c).length ≤ 1000000000) := Lib.hid (by have := bodyS_length tagCo c; have : tagCo.length = 17 := rfl; omega)
  have HVF := Lib.hid (fun (pub : List UInt8) (hpub : pub.length ≤ 1000000000) (wz : World) (vp vm v : Value) (z1 : Bys wz vp pub) (z2 : Bys wz vm (bodyS tagCo c)) (z3 : SigV wz v g.sig) => pverify_any vp vm v pub (bodyS tagCo c) g.sig hpub HBL.out hs.1 hs.2.1 wz z1 z2 z3)
  have HCV : Hid (cgVerB p c g = (polB p && (ckB c && (decide (0 ≤ g.wit) && (decide (g.wit < (p.wits.length : Int)) && verifyB (p.wits.getD g.wit.toNat []) (bodyS tagCo c) g.sig))))) := Lib.hid rfl
  have HPW : Hid (∀ i, i < p.wits.length → (p.wits.getD i []).length ≤ 1000000000) := Lib.hid (fun i hi => by have := hp.2.2.1 i hi; rw [List.getD_eq_getElem?_getD, List.getElem?_eq_getElem hi]; exact this)
  generalize cgVerB p c g = CV at *
  generalize bodyS tagCo c = BO at *
  clear hp hr hs HBL
  obtain ⟨l, ws, rfl, h1, h2⟩ := hvp
  obtain ⟨L, cl, rfl⟩ := h1.form
  obtain ⟨R, cr, rfl⟩ := h2.form
  obtain ⟨rt, rfl, h3⟩ := hvc
  obtain ⟨T, ct, rfl⟩ := h3.form
  obtain ⟨q1, q2, rfl, h4, h5⟩ := hvg
  obtain ⟨P, cp, rfl⟩ := h4.form
  obtain ⟨Q, cq, rfl⟩ := h5.form
  have HX := Lib.hid (And.intro h1 (And.intro h2 (And.intro h3 (And.intro h4 h5))))
  clear h1 h2 h3 h4 h5
  have hb1 := (Below.refl w.heap.size w).alloc (Nat.le_refl _) (.cells #[.slice L p.log.length cl, .slice R p.wits.length cr, .int .i64 p.quorum] 29)
  have hb2 := hb1.alloc (by simp) (.cells #[.int .i64 c.num, .slice T c.root.length ct] 36)
  have hb3 := hb2.alloc (by simp; omega) (.cells #[.int .i64 g.wit, .int .i64 g.sig.index, .slice P g.sig.parts.length cp, .slice Q g.sig.path.length cq] 47)
  have k1 := ((Blk.new w 29 [.slice L p.log.length cl, .slice R p.wits.length cr, .int .i64 p.quorum]).below ((Below.refl _ _).alloc (Nat.le_refl _) (.cells #[.int .i64 c.num, .slice T c.root.length ct] 36))).below ((Below.refl _ _).alloc (Nat.le_refl _) (.cells #[.int .i64 g.wit, .int .i64 g.sig.index, .slice P g.sig.parts.length cp, .slice Q g.sig.path.length cq] 47))
  have k2 := (Blk.new (w.alloc (.cells #[.slice L p.log.length cl, .slice R p.wits.length cr, .int .i64 p.quorum] 29)) 36 [.int .i64 c.num, .slice T c.root.length ct]).below ((Below.refl _ _).alloc (Nat.le_refl _) (.cells #[.int .i64 g.wit, .int .i64 g.sig.index, .slice P g.sig.parts.length cp, .slice Q g.sig.path.length cq] 47))
  have k3 := Blk.new ((w.alloc (.cells #[.slice L p.log.length cl, .slice R p.wits.length cr, .int .i64 p.quorum] 29)).alloc (.cells #[.int .i64 c.num, .slice T c.root.length ct] 36)) 47 [.int .i64 g.wit, .int .i64 g.sig.index, .slice P g.sig.parts.length cp, .slice Q g.sig.path.length cq]
  rw [show (w.alloc (.cells #[.slice L p.log.length cl, .slice R p.wits.length cr, .int .i64 p.quorum] 29)).heap.size = w.heap.size + 1 by simp] at k2
  rw [show ((w.alloc (.cells #[.slice L p.log.length cl, .slice R p.wits.length cr, .int .i64 p.quorum] 29)).alloc (.cells #[.int .i64 c.num, .slice T c.root.length ct] 36)).heap.size = w.heap.size + 2 by simp] at k3
  have HW := Lib.hid (And.intro k1 (And.intro k2 (And.intro k3 hb3)))
  clear k1 k2 k3 hb1 hb2 hb3
  go_enter Tryz.func30, Tryz.ntmps30
  go_wp2_with fail
  refine (HPR.out _ _ ⟨_, _, rfl, HX.out.1.below HW.out.2.2.2, HX.out.2.1.below HW.out.2.2.2⟩).mono ?_
  rintro e w1 ⟨rfl, h⟩
  have H1 := Lib.hid (And.intro (HW.out.1.below h) (And.intro (HW.out.2.1.below h) (And.intro (HW.out.2.2.1.below h) (HW.out.2.2.2.trans (h.mono (by simp; omega))))))
  clear h
  cases hpb : polB p with
  | false =>
    have HF : Hid (CV = false) := Lib.hid (by rw [HCV.out, hpb]; rfl)
    go_wp2
    go_ret
    exact ⟨by rw [HF.out]; rfl, H1.out.2.2.2⟩
  | true =>
    have HCV1 : Hid (CV = (ckB c && (decide (0 ≤ g.wit) && (decide (g.wit < (p.wits.length : Int)) && verifyB (p.wits.getD g.wit.toNat []) BO g.sig)))) := Lib.hid (by rw [HCV.out, hpb]; rfl)
    clear HCV hpb
    have c10 := H1.out.2.1.cell 0 _ rfl
    have c11 := H1.out.2.1.cell 1 _ rfl
    have l1 := H1.out.2.1.lt
    go_wp2_with fail
    refine (HCR.out _ _ ⟨_, rfl, HX.out.2.2.1.below H1.out.2.2.2⟩).mono ?_
    rintro e w2 ⟨rfl, h⟩
    have H2 := Lib.hid (And.intro (H1.out.1.below h) (And.intro (H1.out.2.1.below h) (And.intro (H1.out.2.2.1.below h) (H1.out.2.2.2.trans (h.mono H1.out.2.2.2.size)))))
    clear h c10 c11 l1
    cases hcb : ckB c with
    | false =>
      have HF : Hid (CV = false) := Lib.hid (by rw [HCV1.out, hcb]; rfl)
      go_wp2
      go_ret
      exact ⟨by rw [HF.out]; rfl, H2.out.2.2.2⟩
    | true =>
      have HCV2 : Hid (CV = (decide (0 ≤ g.wit) && (decide (g.wit < (p.wits.length : Int)) && verifyB (p.wits.getD g.wit.toNat []) BO g.sig))) := Lib.hid (by rw [HCV1.out, hcb]; rfl)
      clear HCV1 hcb
      have e1 := H2.out.1.cell 1 _ rfl
      have e20 := H2.out.2.2.1.cell 0 _ rfl
      have l0 := H2.out.1.lt
      have l2 := H2.out.2.2.1.lt
      by_cases hw0 : 0 ≤ g.wit
      · by_cases hw1 : g.wit < (p.wits.length : Int)
        · obtain ⟨wn, hwn⟩ := Int.eq_ofNat_of_zero_le hw0
          have hwl : wn < p.wits.length := by omega
          have HCV3 : Hid (CV = verifyB (p.wits.getD wn []) BO g.sig) := Lib.hid (by rw [HCV2.out, decide_eq_true hw0, decide_eq_true hw1, Bool.true_and, Bool.true_and, hwn, Int.toNat_natCast])
          clear HCV2
          have HWF := Lib.hid (HVF.out (p.wits.getD wn []) (HPW.out wn hwl))
          rw [← HCV3.out] at HWF
          obtain ⟨gr, o, u, rfl, hgr, -, hcap, hcr, hbu⟩ := (HX.out.2.1.below H2.out.2.2.2).get wn hwl
          obtain ⟨U, cu, rfl⟩ := hbu.form
          have HU := Lib.hid hbu
          clear hbu HVF
          generalize (p.wits.getD wn []) = PU at *
          have hwnI : (wn : Int) < (p.wits.length : Int) := by omega
          rw [hwn] at e20 hw0 hw1
          have e11 := H2.out.2.1.cell 1 _ rfl
          have e10 := H2.out.2.1.cell 0 _ rfl
          have l1 := H2.out.2.1.lt
          have e21 := H2.out.2.2.1.cell 1 _ rfl
          have e22 := H2.out.2.2.1.cell 2 _ rfl
          have e23 := H2.out.2.2.1.cell 3 _ rfl
          go_wp2
          refine wp_region_held_drew (S := fun w' => w'.cell? ⟨w.heap.size, 1, none⟩ = some (.slice (some ⟨gr, o, none⟩) p.wits.length cr) ∧ w'.cell? ⟨w.heap.size + 1, 0, none⟩ = some (.int .i64 c.num) ∧ w'.cell? ⟨w.heap.size + 1, 1, none⟩ = some (.slice T c.root.length ct) ∧ w'.cell? ⟨w.heap.size + 2, 0, none⟩ = some (.int .i64 wn) ∧ w'.cell? ⟨w.heap.size + 2, 1, none⟩ = some (.int .i64 g.sig.index) ∧ w'.cell? ⟨w.heap.size + 2, 2, none⟩ = some (.slice P g.sig.parts.length cp) ∧ w'.cell? ⟨w.heap.size + 2, 3, none⟩ = some (.slice Q g.sig.path.length cq) ∧ w'.cell? ⟨gr, o + wn, none⟩ = some (.slice U PU.length cu)) (by kernel_rfl) ?_ (fun hHeld => ?_)
          · exact ⟨e1, e10, e11, e20, e21, e22, e23, hcr⟩
          refine take_yes 0 28 rfl rfl (by kernel_rfl) (by kernel_rfl) (by kernel_rfl) (fun _ _ _ h => h) (by assumption) (by rfl) (v := ?_) ?_ ?_
          rotate_left 1
          · (intro w hSw; (try dsimp only at hSw); go_simp; try with_reducible rfl)
          simp only [List.setIfInBounds_toArray, List.set_cons_zero, List.set_cons_succ]
          refine take_yes 1 29 rfl rfl (by kernel_rfl) (by kernel_rfl) (by kernel_rfl) (fun _ _ _ h => h) (by assumption) (by rfl) (v := ?_) ?_ ?_
          rotate_left 1
          · (intro w hSw; (try dsimp only at hSw); go_simp; try with_reducible rfl)
          simp only [List.setIfInBounds_toArray, List.set_cons_zero, List.set_cons_succ]
          refine take_yes 2 30 rfl rfl (by kernel_rfl) (by kernel_rfl) (by kernel_rfl) (fun _ _ _ h => h) (by assumption) (by rfl) (v := ?_) ?_ ?_
          rotate_left 1
          · (intro w hSw; (try dsimp only at hSw); go_simp; try with_reducible rfl)
          simp only [List.setIfInBounds_toArray, List.set_cons_zero, List.set_cons_succ]
          refine take_yes 3 31 rfl rfl (by kernel_rfl) (by kernel_rfl) (by kernel_rfl) (fun _ _ _ h => h) (by assumption) (by rfl) (v := ?_) ?_ ?_
          rotate_left 1
          · (intro w hSw; (try dsimp only at hSw); go_simp; try with_reducible rfl)
          simp only [List.setIfInBounds_toArray, List.set_cons_zero, List.set_cons_succ]
          refine take_yes 4 32 rfl rfl (by kernel_rfl) (by kernel_rfl) (by kernel_rfl) (fun _ _ _ h => h) (by assumption) (by rfl) (v := ?_) ?_ ?_
          rotate_left 1
          · (intro w hSw; (try dsimp only at hSw); go_simp; try with_reducible rfl)
          simp only [List.setIfInBounds_toArray, List.set_cons_zero, List.set_cons_succ]
          refine take_yes 5 33 rfl rfl (by kernel_rfl) (by kernel_rfl) (by kernel_rfl) (fun _ _ _ h => h) (by assumption) (by rfl) (v := ?_) ?_ ?_
          rotate_left 1
          · (intro w hSw; (try dsimp only at hSw); go_simp; try with_reducible rfl)
          simp only [List.setIfInBounds_toArray, List.set_cons_zero, List.set_cons_succ]
          refine take_yes 6 34 rfl rfl (by kernel_rfl) (by kernel_rfl) (by kernel_rfl) (fun _ _ _ h => h) (by assumption) (by rfl) (v := ?_) ?_ ?_
          rotate_left 1
          · (intro w hSw; (try dsimp only at hSw); go_simp; try with_reducible rfl)
          simp only [List.setIfInBounds_toArray, List.set_cons_zero, List.set_cons_succ]
          refine take_yes 8 36 rfl rfl (by kernel_rfl) (by kernel_rfl) (by kernel_rfl) (fun _ _ _ h => h) (by assumption) (by rfl) (v := ?_) ?_ ?_
          rotate_left 1
          · (intro w hSw; (try dsimp only at hSw); go_simp; try with_reducible rfl)
          simp only [List.setIfInBounds_toArray, List.set_cons_zero, List.set_cons_succ]
          refine take_yes 9 37 rfl rfl (by kernel_rfl) (by kernel_rfl) (by kernel_rfl) (fun _ _ _ h => h) (by assumption) (by rfl) (v := ?_) ?_ ?_
          rotate_left 1
          · (intro w hSw; (try dsimp only at hSw); go_simp; try with_reducible rfl)
          simp only [List.setIfInBounds_toArray, List.set_cons_zero, List.set_cons_succ]
          refine wpAnyH_ready (rs := [7]) (by kernel_rfl) (by simp) ?_
          refine AllReadyH.cons rfl (fun K hK => ?_) AllReadyH.nil
          -- 7:  dst := some 35, op := Op.call  callee := Callee.value (Operand.func 62), args := #[Operand.tmp 34], argTypes := #[36] , type :
          go_simp
          go_at_call 58
          refine (HBD.out w2.drew _ ⟨_, rfl, HX.out.2.2.1.below H2.out.2.2.2.drew⟩).mono ?_
          rintro e w3 ⟨v3, rfl, h3, h4'⟩
          obtain ⟨A3, n3, rfl⟩ := h3.form
          have h4 : Below w2.heap.size w2 w3 := ⟨h4'.os, h4'.tape, h4'.output, h4'.size, h4'.block⟩
          have kA := H2.out.1.below h4
          have kB := H2.out.2.1.below h4
          have kC := H2.out.2.2.1.below h4
          have f1 := kA.cell 1 _ rfl
          have f10 := kB.cell 0 _ rfl
          have f11 := kB.cell 1 _ rfl
          have f20 := kC.cell 0 _ rfl
          rw [hwn] at f20
          have f21 := kC.cell 1 _ rfl
          have f22 := kC.cell 2 _ rfl
          have f23 := kC.cell 3 _ rfl
          have hcr3 := (h4.cell (p := ⟨gr, o + wn, none⟩) hgr).trans hcr
          have H3 := Lib.hid (And.intro h3 (And.intro (HU.out.below h4) (H2.out.2.2.2.trans (h4.mono H2.out.2.2.2.size))))
          have hz23 := h4.size
          clear h3 h4 h4' kA kB kC
          go_wp2_with fail
          refine hK.out _ _ ⟨f1, f10, f11, f20, f21, f22, f23, hcr3⟩ (fun hHeld7 => ?_)
          clear hK K
          try simp only [Act.put, List.setIfInBounds_toArray, List.set_cons_zero, List.set_cons_succ]
          refine wpAnyH_ready (rs := [10]) (by kernel_rfl) (by simp) ?_
          refine AllReadyH.cons rfl (fun K hK => ?_) AllReadyH.nil
          -- 10:  dst := some 38, op := Op.call  callee := Callee.value (Operand.func 55), args := #[Operand.tmp 33, Operand.tmp 35, Operand.tmp 
          go_simp
          go_at_call 53
          refine (HWF.out w3 _ _ _ H3.out.2.1 H3.out.1 ⟨_, _, rfl, HX.out.2.2.2.1.below H3.out.2.2, HX.out.2.2.2.2.below H3.out.2.2⟩).mono ?_
          rintro e w4 ⟨rfl, h4⟩
          have j1 := (h4.cell (p := ⟨w.heap.size, 1, none⟩) (Nat.lt_of_lt_of_le l0 hz23)).trans f1
          have j10 := (h4.cell (p := ⟨w.heap.size + 1, 0, none⟩) (Nat.lt_of_lt_of_le l1 hz23)).trans f10
          have j11 := (h4.cell (p := ⟨w.heap.size + 1, 1, none⟩) (Nat.lt_of_lt_of_le l1 hz23)).trans f11
          have j20 := (h4.cell (p := ⟨w.heap.size + 2, 0, none⟩) (Nat.lt_of_lt_of_le l2 hz23)).trans f20
          have j21 := (h4.cell (p := ⟨w.heap.size + 2, 1, none⟩) (Nat.lt_of_lt_of_le l2 hz23)).trans f21
          have j22 := (h4.cell (p := ⟨w.heap.size + 2, 2, none⟩) (Nat.lt_of_lt_of_le l2 hz23)).trans f22
          have j23 := (h4.cell (p := ⟨w.heap.size + 2, 3, none⟩) (Nat.lt_of_lt_of_le l2 hz23)).trans f23
          have hcr4 := (h4.cell (p := ⟨gr, o + wn, none⟩) (Nat.lt_of_lt_of_le hgr hz23)).trans hcr3
          have H4 := Lib.hid (H3.out.2.2.trans (h4.mono H3.out.2.2.size))
          clear h4
          go_wp2_with fail
          refine hK.out _ _ ⟨j1, j10, j11, j20, j21, j22, j23, hcr4⟩ (fun hHeld10 => ?_)
          clear hK K
          try simp only [Act.put, List.setIfInBounds_toArray, List.set_cons_zero, List.set_cons_succ]
          refine take_yes 11 6 rfl rfl (by kernel_rfl) (by kernel_rfl) (by kernel_rfl) (fun _ _ _ h => h) (by assumption) (by rfl) (v := ?_) ?_ ?_
          rotate_left 1
          · (intro w hSw; (try dsimp only at hSw); go_simp; try with_reducible rfl)
          simp only [List.setIfInBounds_toArray, List.set_cons_zero, List.set_cons_succ]
          refine wpAnyH_done (by kernel_rfl) ?_ _
          go_wp2
          go_ret
          exact ⟨rfl, H4.out⟩
        · have HF : Hid (CV = false) := Lib.hid (by rw [HCV2.out, decide_eq_false hw1]; simp)
          go_wp2
          go_ret
          exact ⟨by rw [HF.out]; rfl, H2.out.2.2.2⟩
      · have HF : Hid (CV = false) := Lib.hid (by rw [HCV2.out, decide_eq_false hw0]; rfl)
        go_wp2
        go_ret
        exact ⟨by rw [HF.out]; rfl, H2.out.2.2.2⟩
end Go.Proofs.YtlkgeifmppadmaaGreat
namespace Go.Proofs.YtlkgeifmppadmaaGreat
open Go.RowKit
set_option linter.unusedVariables false
set_option linter.unusedSimpArgs false

theorem Rws.all {w : World} {A : Option Addr} {n c : Nat} {ls : List (List UInt8)} (h : Rws w (.slice A n c) ls) (h0 : 0 < ls.length) : ∃ g o, A = some ⟨g, o, none⟩ ∧ g < w.heap.size ∧ n = ls.length ∧ ls.length ≤ c ∧ c ≤ maxLen ∧ ∀ i, i < ls.length → ∃ A' c', w.cell? ⟨g, o + i, none⟩ = some (.slice A' (ls.getD i []).length c') ∧ Bys w (.slice A' (ls.getD i []).length c') (ls.getD i []) := by
  obtain ⟨us, h1, h2⟩ := h
  obtain ⟨g, o, rfl, e1, hg, hc, hm, hcell⟩ := h1.place h0
  refine ⟨g, o, rfl, hg, e1, hc, hm, fun i hi => ?_⟩
  obtain ⟨u, hu, hb⟩ := h2 i hi
  have e : ls.getD i [] = ls[i] := by rw [List.getD_eq_getElem?_getD, List.getElem?_eq_getElem hi]; rfl
  rw [e]
  obtain ⟨A', c', rfl⟩ := hb.form
  exact ⟨A', c', hcell i _ hu, hb⟩
theorem anyB_snoc (ls : List (List UInt8)) (k : Nat) (hk : k < ls.length) (X : List UInt8) : anyB (ls.take (k + 1)) X = (anyB (ls.take k) X || (ls.getD k [] == X)) := by
  have e : ls.getD k [] = ls[k] := by rw [List.getD_eq_getElem?_getD, List.getElem?_eq_getElem hk]; rfl
  unfold anyB
  rw [e, List.take_succ_eq_append_getElem hk, List.any_append, List.any_cons, List.any_nil, Bool.or_false]
theorem anyB_mono (ls : List (List UInt8)) (X : List UInt8) (k : Nat) (h : anyB (ls.take k) X = true) : ∀ i, k ≤ i → anyB (ls.take i) X = true := by
  intro i hi
  unfold anyB at *
  rw [List.any_eq_true] at *
  obtain ⟨y, hy, e⟩ := h
  exact ⟨y, (List.take_subset_take_left ls hi) hy, e⟩
set_option maxRecDepth 100000 in
set_option maxHeartbeats 4000000 in
theorem rpolicy_any (v : Value) (p : PolD) (hl : p.log.length ≤ 1000000000) (hw : p.wits.length ≤ 1000000000) (hq : -1000000000 ≤ p.quorum ∧ p.quorum ≤ 1000000000) (w : World) (hv : PolV w v p) :
    Calls Tryz.prog 60 #[v] w fun e w' => e = .returned (.bool (polB p)) ∧ Below w.heap.size w w' := by
  obtain ⟨l, ws, rfl, h1, h2⟩ := hv
  obtain ⟨L, cl, rfl⟩ := h1.form
  obtain ⟨R, cr, rfl⟩ := h2.form
  have HPB : Hid (polB p = ((decide (p.log.length = 32) && decide (1 ≤ p.wits.length) && decide (p.wits.length ≤ 4) && decide (1 ≤ p.quorum) && decide (p.quorum ≤ (p.wits.length : Int))) && witsN p.wits p.wits.length)) := Lib.hid rfl
  have HX := Lib.hid (And.intro h1 h2)
  clear h1 h2
  generalize polB p = PB at *
  obtain ⟨log, wits, q⟩ := p
  obtain ⟨hq0, hq1⟩ := hq
  have hk0 := Blk.new w 29 [.slice L log.length cl, .slice R wits.length cr, .int .i64 q]
  have hb0 : Below w.heap.size w (w.alloc (.cells #[.slice L log.length cl, .slice R wits.length cr, .int .i64 q] 29)) := (Below.refl w.heap.size w).alloc (Nat.le_refl _) _
  have HW := Lib.hid (And.intro hk0 hb0)
  clear hk0 hb0
  go_enter Tryz.func60, Tryz.ntmps60
  by_cases k1 : log.length = 32
  · have n1 : (((log.length : Nat) : Int) != 32) = false := by simp [k1]
    have K1 := Lib.hid k1
    clear k1
    by_cases k2 : 1 ≤ wits.length
    · by_cases k3 : wits.length ≤ 4
      · by_cases k4 : 1 ≤ q
        · by_cases k5 : q ≤ (wits.length : Int)
          · have HP2 : Hid (PB = witsN wits wits.length) := Lib.hid (by rw [HPB.out]; simp [K1.out, k2, k3, k4, k5])
            clear HPB
            obtain ⟨g, o, rfl, hg, -, hroom, hroom2, hall⟩ := HX.out.2.all (by show 0 < wits.length; omega)
            have HALL := Lib.hid hall
            unfold maxLen at hroom2
            clear hall
            go_wp2
            go_loopw [4] (fun v4 wr => ∃ i : Nat, v4 = .int .i64 i ∧ i ≤ wits.length ∧ Hid (Below w.heap.size w wr ∧ Blk wr w.heap.size 29 [.slice L log.length cl, .slice (some ⟨g, o, none⟩) wits.length cr, .int .i64 q] ∧ witsN wits i = true)) (fun v _ => wits.length - (intOf v).toNat)
            case atStart => exact ⟨0, rfl, Nat.zero_le _, Lib.hid ⟨HW.out.2, HW.out.1, rfl⟩⟩
            case round =>
              obtain ⟨i, rfl, hi, HI⟩ := hrel
              have q1 := HI.out.2.1.cell 1 _ rfl
              have hbl := HI.out.2.1.lt
              by_cases hlt : i < wits.length
              · obtain ⟨A9, c9, hcu, hbu⟩ := HALL.out i hlt
                have p0 := (HI.out.1.cell (p := ⟨g, o + i, none⟩) hg).trans hcu
                have HB9 := Lib.hid (And.intro hcu hbu)
                have HWS : Hid (witsN wits (i + 1) = (witsN wits i && (len32 (wits.getD i []) && !(anyB (wits.take i) (wits.getD i []))))) := Lib.hid rfl
                have hgl : g < wr.heap.size := by have := HI.out.1.size; omega
                clear hcu hbu
                generalize wits.getD i [] = X at *
                by_cases h32 : X.length = 32
                · have nk : (((X.length : Nat) : Int) != 32) = false := by simp [h32]
                  have H32 : Hid (len32 X = true) := Lib.hid (by simp [len32, h32])
                  clear h32
                  go_wp2
                  go_loopw [5] (fun v5 wr => ∃ k : Nat, v5 = .int .i64 k ∧ k ≤ i ∧ Hid (Below w.heap.size w wr ∧ Blk wr w.heap.size 29 [.slice L log.length cl, .slice (some ⟨g, o, none⟩) wits.length cr, .int .i64 q] ∧ anyB (wits.take k) X = false)) (fun v _ => i - (intOf v).toNat)
                  case atStart => exact ⟨0, rfl, Nat.zero_le _, Lib.hid ⟨HI.out.1, HI.out.2.1, rfl⟩⟩
                  case round =>
                    clear q1 hbl p0 hgl
                    have HI0 := Lib.hid HI.out.2.2
                    clear HI
                    obtain ⟨k, rfl, hk, HI⟩ := hrel
                    by_cases hlk : k < i
                    · have q1 := HI.out.2.1.cell 1 _ rfl
                      have hbl := HI.out.2.1.lt
                      have hkw : k < wits.length := by omega
                      obtain ⟨A8, c8, hcu, hbu⟩ := HALL.out k hkw
                      have p0 := (HI.out.1.cell (p := ⟨g, o + i, none⟩) hg).trans HB9.out.1
                      have p1 := (HI.out.1.cell (p := ⟨g, o + k, none⟩) hg).trans hcu
                      have r1 := run_string_bys wr.drew _ _ ((HB9.out.2.below HI.out.1).below (Below.refl _ _).drew)
                      have r2 := run_string_bys wr.drew _ _ ((hbu.below HI.out.1).below (Below.refl _ _).drew)
                      have HAN := Lib.hid (anyB_snoc wits k (by omega) X)
                      have hgl : g < wr.heap.size := by have := HI.out.1.size; omega
                      clear hcu hbu
                      generalize wits.getD k [] = Y at *
                      go_wp2
                      refine wp_region_held_drew (S := fun w' => w'.cell? ⟨w.heap.size, 1, none⟩ = some (.slice (some ⟨g, o, none⟩) wits.length cr) ∧ w'.cell? ⟨g, o + i, none⟩ = some (.slice A9 X.length c9) ∧ w'.cell? ⟨g, o + k, none⟩ = some (.slice A8 Y.length c8) ∧ (convert 26 9 (.slice A9 X.length c9)).run Tryz.prog w' = .ok (.string ⟨X.toArray⟩) w' ∧ (convert 26 9 (.slice A8 Y.length c8)).run Tryz.prog w' = .ok (.string ⟨Y.toArray⟩) w') (by kernel_rfl) ?_ (fun hHeld => ?_)
                      · exact ⟨q1, p0, p1, r1, r2⟩
                      refine take_yes 0 49 rfl rfl (by kernel_rfl) (by kernel_rfl) (by kernel_rfl) (fun _ _ _ h => h) (by assumption) (by rfl) (v := ?_) ?_ ?_
                      rotate_left 1
                      · (intro w hSw; (try dsimp only at hSw); go_simp; try with_reducible rfl)
                      simp only [List.setIfInBounds_toArray, List.set_cons_zero, List.set_cons_succ]
                      refine take_yes 1 50 rfl rfl (by kernel_rfl) (by kernel_rfl) (by kernel_rfl) (fun _ _ _ h => h) (by assumption) (by rfl) (v := ?_) ?_ ?_
                      rotate_left 1
                      · (intro w hSw; (try dsimp only at hSw); go_simp; try with_reducible rfl)
                      simp only [List.setIfInBounds_toArray, List.set_cons_zero, List.set_cons_succ]
                      refine take_yes 2 51 rfl rfl (by kernel_rfl) (by kernel_rfl) (by kernel_rfl) (fun _ _ _ h => h) (by assumption) (by rfl) (v := ?_) ?_ ?_
                      rotate_left 1
                      · (intro w hSw; (try dsimp only at hSw); go_simp; try with_reducible rfl)
                      simp only [List.setIfInBounds_toArray, List.set_cons_zero, List.set_cons_succ]
                      refine take_yes 3 52 rfl rfl (by kernel_rfl) (by kernel_rfl) (by kernel_rfl) (fun _ _ _ h => h) (by assumption) (by rfl) (v := ?_) ?_ ?_
                      rotate_left 1
                      · (intro w hSw; (try dsimp only at hSw); go_simp; try with_reducible rfl)
                      simp only [List.setIfInBounds_toArray, List.set_cons_zero, List.set_cons_succ]
                      refine take_yes 4 53 rfl rfl (by kernel_rfl) (by kernel_rfl) (by kernel_rfl) (fun _ _ _ h => h) (by assumption) (by rfl) (v := ?_) ?_ ?_
                      rotate_left 1
                      · (intro w hSw; (try dsimp only at hSw); go_simp; try with_reducible rfl)
                      simp only [List.setIfInBounds_toArray, List.set_cons_zero, List.set_cons_succ]
                      refine take_yes 5 54 rfl rfl (by kernel_rfl) (by kernel_rfl) (by kernel_rfl) (fun _ _ _ h => h) (by assumption) (by rfl) (v := ?_) ?_ ?_
                      rotate_left 1
                      · (intro w hSw; (try dsimp only at hSw); go_simp; try with_reducible rfl)
                      simp only [List.setIfInBounds_toArray, List.set_cons_zero, List.set_cons_succ]
                      refine take_yes 6 55 rfl rfl (by kernel_rfl) (by kernel_rfl) (by kernel_rfl) (fun _ _ _ h => h) (by assumption) (by rfl) (v := ?_) ?_ ?_
                      rotate_left 1
                      · (intro w hSw; (try dsimp only at hSw); go_simp; try with_reducible rfl)
                      simp only [List.setIfInBounds_toArray, List.set_cons_zero, List.set_cons_succ]
                      refine take_yes 7 56 rfl rfl (by kernel_rfl) (by kernel_rfl) (by kernel_rfl) (fun _ _ _ h => h) (by assumption) (by rfl) (v := ?_) ?_ ?_
                      rotate_left 1
                      · (intro w hSw; (try dsimp only at hSw); go_simp; try with_reducible rfl)
                      simp only [List.setIfInBounds_toArray, List.set_cons_zero, List.set_cons_succ]
                      refine take_yes 8 57 rfl rfl (by kernel_rfl) (by kernel_rfl) (by kernel_rfl) (fun _ _ _ h => h) (by assumption) (by rfl) (v := ?_) ?_ ?_
                      rotate_left 1
                      · (intro w hSw; (try dsimp only at hSw); go_simp; try with_reducible rfl)
                      simp only [List.setIfInBounds_toArray, List.set_cons_zero, List.set_cons_succ]
                      refine take_yes 9 58 rfl rfl (by kernel_rfl) (by kernel_rfl) (by kernel_rfl) (fun _ _ _ h => h) (by assumption) (by rfl) (v := ?_) ?_ ?_
                      rotate_left 1
                      · (intro w hSw; (try dsimp only at hSw); go_simp; try with_reducible rfl)
                      simp only [List.setIfInBounds_toArray, List.set_cons_zero, List.set_cons_succ]
                      refine take_yes 10 59 rfl rfl (by kernel_rfl) (by kernel_rfl) (by kernel_rfl) (fun _ _ _ h => h) (by assumption) (by rfl) (v := ?_) ?_ ?_
                      rotate_left 1
                      · (intro w hSw; (try dsimp only at hSw); go_simp; try with_reducible rfl)
                      simp only [List.setIfInBounds_toArray, List.set_cons_zero, List.set_cons_succ]
                      refine take_yes 11 60 rfl rfl (by kernel_rfl) (by kernel_rfl) (by kernel_rfl) (fun _ _ _ h => h) (by assumption) (by rfl) (v := ?_) ?_ ?_
                      rotate_left 1
                      · (intro w hSw; (try dsimp only at hSw); go_simp; try with_reducible rfl)
                      simp only [List.setIfInBounds_toArray, List.set_cons_zero, List.set_cons_succ]
                      refine take_yes 12 61 rfl rfl (by kernel_rfl) (by kernel_rfl) (by kernel_rfl) (fun _ _ _ h => h) (by assumption) (by rfl) (v := ?_) ?_ ?_
                      rotate_left 1
                      · (intro w hSw; (try dsimp only at hSw); go_simp; try with_reducible rfl)
                      simp only [List.setIfInBounds_toArray, List.set_cons_zero, List.set_cons_succ]
                      refine wpAnyH_done (by kernel_rfl) ?_ _
                      have hd := (Below.refl wr.heap.size wr).drew
                      have HN := Lib.hid (And.intro (HI.out.1.trans (hd.mono HI.out.1.size)) (HI.out.2.1.below hd))
                      clear hd hHeld r1 r2 q1 p0 p1
                      generalize hB : (X == Y) = BB at *
                      generalize wr.drew = w2 at *
                      cases BB with
                      | true =>
                        have hXY : X = Y := by simpa using hB
                        have HF : Hid (PB = false) := Lib.hid (by
                          rw [HP2.out]
                          have ha : anyB (wits.take (k + 1)) X = true := by rw [HAN.out, hXY]; simp
                          exact witsN_mono wits (i + 1) (by rw [HWS.out, anyB_mono wits X (k + 1) ha i (by omega)]; simp) _ (by omega))
                        clear hXY hB
                        go_wp2
                        go_ret
                        exact ⟨by rw [HF.out]; rfl, HN.out.1⟩
                      | false =>
                        have HT : Hid (anyB (wits.take (k + 1)) X = false) := Lib.hid (by
                          have hXY : X ≠ Y := by rw [← beq_eq_false_iff_ne]; exact hB
                          rw [HAN.out, HI.out.2.2, Bool.false_or, beq_eq_false_iff_ne]
                          exact fun e => hXY e.symm)
                        clear hB
                        go_wp2
                        go_roundw
                        case rel => exact ⟨k + 1, by go_num, by omega, Lib.hid ⟨HN.out.1, HN.out.2, HT.out⟩⟩
                        case measure => simp [intOf]; omega
                    · obtain rfl : k = i := by omega
                      have HT : Hid (witsN wits (k + 1) = true) := Lib.hid (by rw [HWS.out, HI0.out, H32.out, HI.out.2.2]; rfl)
                      go_wp2
                      go_roundw
                      case rel => exact ⟨k + 1, by go_num, by omega, Lib.hid ⟨HI.out.1, HI.out.2.1, HT.out⟩⟩
                      case measure => simp [intOf]; omega
                · have nk : (((X.length : Nat) : Int) != 32) = true := by rw [bne_iff_ne]; omega
                  have HF : Hid (PB = false) := Lib.hid (by rw [HP2.out]; exact witsN_mono wits (i + 1) (by rw [HWS.out]; simp [len32, h32]) _ (by omega))
                  clear h32
                  go_wp2
                  go_ret
                  exact ⟨by rw [HF.out]; rfl, HI.out.1⟩
              · obtain rfl : i = wits.length := by omega
                have HT : Hid (PB = true) := Lib.hid (by rw [HP2.out]; exact HI.out.2.2)
                clear q1 hbl
                go_wp2
                go_ret
                exact ⟨by rw [HT.out]; rfl, HI.out.1⟩
          · have HT : Hid (PB = false) := Lib.hid (by rw [HPB.out]; simp [k5])
            go_wp2
            go_ret
            exact ⟨by rw [HT.out]; rfl, HW.out.2⟩
        · have HT : Hid (PB = false) := Lib.hid (by rw [HPB.out]; simp [k4])
          go_wp2
          go_ret
          exact ⟨by rw [HT.out]; rfl, HW.out.2⟩
      · have HT : Hid (PB = false) := Lib.hid (by rw [HPB.out]; simp [k3])
        go_wp2
        go_ret
        exact ⟨by rw [HT.out]; rfl, HW.out.2⟩
    · have HT : Hid (PB = false) := Lib.hid (by rw [HPB.out]; simp [k2])
      go_wp2
      go_ret
      exact ⟨by rw [HT.out]; rfl, HW.out.2⟩
  · have HT : Hid (PB = false) := Lib.hid (by rw [HPB.out]; simp [k1])
    have n1 : (((log.length : Nat) : Int) != 32) = true := by rw [bne_iff_ne]; omega
    go_wp2
    go_ret
    exact ⟨by rw [HT.out]; rfl, HW.out.2⟩
end Go.Proofs.YtlkgeifmppadmaaGreat
