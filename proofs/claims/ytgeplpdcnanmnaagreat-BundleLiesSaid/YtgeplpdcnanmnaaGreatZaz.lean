/- The program's policies: Right. Results that lie in a cell. Rows of cosignatures. Conditions: as each theorem states them. -/
import Derived.Test.YtgeplpdcnanmnaaGreatZay
import Derived.Laws.ResultCell
import Derived.Test.YtgeplpdcnanmnaaGreatZaa
namespace Go.Proofs.YtgeplpdcnanmnaaGreat
open Go.RowKit
set_option linter.unusedVariables false
set_option linter.unusedSimpArgs false

structure PolD where
 log : List UInt8
 wits : List (List UInt8)
 quorum : Int
def PolV (w : World) (v : Value) (p : PolD) : Prop := ∃ l ws, v = .agg #[l, ws, .int .i64 p.quorum] ∧ Bys w l p.log ∧ Rws w ws p.wits
def anyB (ls : List (List UInt8)) (x : List UInt8) : Bool := ls.any (fun b => b == x)
def witsN (ls : List (List UInt8)) : Nat → Bool
 | 0 => true
 | k + 1 => witsN ls k && (len32 (ls.getD k []) && !(anyB (ls.take k) (ls.getD k [])))
theorem witsN_mono (ls : List (List UInt8)) (k : Nat) (h : witsN ls k = false) : ∀ j, k ≤ j → witsN ls j = false := by
  intro j hj
  induction j with
  | zero => obtain rfl : k = 0 := by omega
            exact h
  | succ j ih =>
    by_cases e : k = j + 1
    · subst e; exact h
    · show (witsN ls j && _) = false
      rw [ih (by omega), Bool.false_and]
def polB (p : PolD) : Bool := (decide (p.log.length = 32) && decide (1 ≤ p.wits.length) && decide (p.wits.length ≤ 4) && decide (1 ≤ p.quorum) && decide (p.quorum ≤ (p.wits.length : Int))) && witsN p.wits p.wits.length

theorem right1_any (x u : Value) (a b : List UInt8) (B : Nat) (w : World) (hx : Bys w x a) (hu : Bys w u b) (hB : w.cell? ⟨B, 0, none⟩ = some u) :
  Calls Tryz.prog 130 #[x, .pointer (some ⟨B, 0, none⟩)] w fun e w' => e = .returned (.bool (a == b)) ∧ w = w' := by
 have H := Lib.hid (same_bytes x u a b w hx hu)
 obtain ⟨A, c, rfl⟩ := hx.form
 obtain ⟨A', c', rfl⟩ := hu.form
 clear hx hu
 go_enter Tryz.func130, Tryz.ntmps130
 go_wp2_with fail
 refine H.out.mono ?_
 rintro e w' ⟨rfl, rfl⟩
 go_wp2
 go_ret
 exact ⟨rfl, rfl⟩
theorem anyB_at {ls : List (List UInt8)} {x : List UInt8} (k : Nat) (h : k < ls.length) (e : ls[k] = x) : anyB ls x = true := by
 unfold anyB
 rw [List.any_eq_true]
 exact ⟨_, List.getElem_mem h, by simp [e]⟩
theorem anyB_no {ls : List (List UInt8)} {x : List UInt8} (h : ∀ i (h : i < ls.length), ls[i] ≠ x) : anyB ls x = false := by
 unfold anyB
 rw [List.any_eq_false]
 intro y hy
 obtain ⟨i, hi, rfl⟩ := List.getElem_of_mem hy
 simpa using h i hi
set_option maxRecDepth 100000 in
set_option maxHeartbeats 2000000 in
theorem indexr_any (v u : Value) (ls : List (List UInt8)) (b : List UInt8) (B : Nat) (hsm : ls.length ≤ 1000000000) (w : World) (hx : Rws w v ls) (hu : Bys w u b) (hB : w.cell? ⟨B, 0, none⟩ = some u) :
  Calls Tryz.prog 177 #[v, .func (.func 130) #[] #[.pointer (some ⟨B, 0, none⟩)]] w fun e w' => ∃ r : Int, e = .returned (.int .i64 r) ∧ decide (0 ≤ r) = anyB ls b ∧ Below w.heap.size w w' := by
 obtain ⟨A, c, rfl⟩ := hx.form
 have HX := Lib.hid (And.intro hx (And.intro hu hB))
 have hBlt : B < w.heap.size := World.block_lt_of_cell? w _ hB
 clear hx hu hB
 go_enter Tryz.func177, Tryz.ntmps177
 go_wp2
 go_loopw [8] (fun v8 wr => ∃ k : Nat, v8 = .int .i64 k ∧ k ≤ ls.length ∧ Hid (Below w.heap.size w wr ∧ ∀ j (h : j < ls.length), j < k → ls[j] ≠ b)) (fun v _ => ls.length - (intOf v).toNat)
 case atStart => exact ⟨0, rfl, Nat.zero_le _, Lib.hid ⟨Below.refl _ _, fun j h hj => by omega⟩⟩
 case round =>
  obtain ⟨k, rfl, hk, HI⟩ := hrel
  by_cases hlt : k < ls.length
  ·obtain ⟨g, o, un, rfl, hg, -, -, hcu, hbu⟩ := HX.out.1.at' k hlt
   have p0 := (HI.out.1.cell (p := ⟨g, o + k, none⟩) hg).trans hcu
   have HC := Lib.hid (right1_any un u ls[k] b B wr (hbu.below HI.out.1) (HX.out.2.1.below HI.out.1) ((HI.out.1.cell (p := ⟨B, 0, none⟩) hBlt).trans HX.out.2.2))
   obtain ⟨A9, c9, rfl⟩ := hbu.form
   clear hcu hbu
   by_cases h32 : ls[k] = b
   ·have hnl : (ls[k] == b) = true := by simp [h32]
    have HF : Hid (anyB ls b = true) := Lib.hid (anyB_at k hlt h32)
    rw [hnl] at HC
    clear h32 hnl
    go_wp2_with (go_at_call 130; refine HC.out.mono ?_; rintro e w' ⟨rfl, rfl⟩)
    go_ret
    exact ⟨_, rfl, by rw [HF.out]; simp, HI.out.1⟩
   ·have hnl : (ls[k] == b) = false := by simp [h32]
    have H32 := Lib.hid h32
    rw [hnl] at HC
    clear h32 hnl
    go_wp2_with (go_at_call 130; refine HC.out.mono ?_; rintro e w' ⟨rfl, rfl⟩)
    go_roundw
    case rel => exact ⟨k + 1, by go_num, by omega, Lib.hid ⟨HI.out.1, fun j h hj => by
     by_cases e : j = k
     ·subst e; exact H32.out
     ·exact HI.out.2 j h (by omega)⟩⟩
    case measure => simp [intOf]; omega
  ·have HA : Hid (anyB ls b = false) := Lib.hid (anyB_no (fun j h => HI.out.2 j h (by omega)))
   go_wp2
   go_ret
   exact ⟨_, rfl, by rw [HA.out]; rfl, HI.out.1⟩
theorem containsr_any (v u : Value) (ls : List (List UInt8)) (b : List UInt8) (B : Nat) (hsm : ls.length ≤ 1000000000) (w : World) (hx : Rws w v ls) (hu : Bys w u b) (hB : w.cell? ⟨B, 0, none⟩ = some u) :
  Calls Tryz.prog 131 #[v, .func (.func 130) #[] #[.pointer (some ⟨B, 0, none⟩)]] w fun e w' => e = .returned (.bool (anyB ls b)) ∧ Below w.heap.size w w' := by
 have HI := Lib.hid (indexr_any v u ls b B hsm w hx hu hB)
 obtain ⟨A, c, rfl⟩ := hx.form
 clear hx hu hB
 go_enter Tryz.func131, Tryz.ntmps131
 go_wp2_with fail
 refine HI.out.mono ?_
 rintro e w1 ⟨r, rfl, h1, h2⟩
 have H1 := Lib.hid (And.intro h1 h2)
 clear h1 h2
 go_wp2
 go_ret
 exact ⟨by rw [← H1.out.1]; rfl, H1.out.2⟩
theorem results_row_tmp {P : Program} {fn : Func} {p u : Tmp} {ty : TypeId} (h : fn.results = #[.cell p ty, .tmp u]) (tmps : Array Value) (w : World) (g : Nat) (t : TypeId) (cs : Array Value) (fr : Nat × Nat) (d : TypeDesc)
  (hp : tmps.getD p undef = .pointer (some ⟨g, 0, none⟩)) (hg : w.heap[g]? = some (.cells cs t fr))
  (hu : P.underlying ty = some d) (hd : (match d with | .struct _ | .array _ _ => true | _ => false) = true) (hi : (P.info? ty).map (·.size) = some cs.size) (y : Value) (hy : tmps.getD u undef = y) :
  (results fn tmps).run P w = .ok (.tuple #[.agg cs, y]) w := by
 rw [results_cell_tmp h, hp, hy]
 simp [asAddr, run_loadVar_row w g t ty cs fr d hg hu hd hi, Result.andThen]
def CgRow (D : Nat → Prop) (w : World) (us : List Value) (ls : List CgD) : Prop :=
 us.length = ls.length * 4 ∧ ∀ i (h : i < ls.length), ∃ p q, us[i * 4]? = some (.int .i64 ls[i].wit) ∧ us[i * 4 + 1]? = some (.int .i64 ls[i].sig.index) ∧ us[i * 4 + 2]? = some p ∧ us[i * 4 + 3]? = some q ∧ RwsF D w p ls[i].sig.parts ∧ RwsF D w q ls[i].sig.path
theorem CgRow.nil (D : Nat → Prop) (w : World) : CgRow D w [] [] := ⟨rfl, fun i h => absurd h (Nat.not_lt_zero _)⟩
theorem CgRow.chg {S T : Nat → Prop} {w w1 : World} {us : List Value} {ls : List CgD} (h : CgRow S w us ls) (hc : Chg w w1 T) (hS : ∀ g, S g → ¬ T g) : CgRow S w1 us ls :=
 ⟨h.1, fun i hi => by obtain ⟨p, q, h1, h2, h3, h4, h5, h6⟩ := h.2 i hi; exact ⟨p, q, h1, h2, h3, h4, h5.chg hc hS, h6.chg hc hS⟩⟩
theorem CgRow.mono {S T : Nat → Prop} {w : World} {us : List Value} {ls : List CgD} (h : CgRow S w us ls) (hS : ∀ g, S g → T g) : CgRow T w us ls :=
 ⟨h.1, fun i hi => by obtain ⟨p, q, h1, h2, h3, h4, h5, h6⟩ := h.2 i hi; exact ⟨p, q, h1, h2, h3, h4, h5.mono hS, h6.mono hS⟩⟩
theorem Sho.cut {D : Nat → Prop} {w : World} {v : Value} {n k : Nat} {cs : List Value} (h : Sho w v n k cs) (hf : 0 < n → ∀ g, v.ownBlock = some g → D g) : 0 < n → ∀ g, v.ownBlock = some g → D g ∧ g < w.heap.size := fun h0 g hg => ⟨hf h0 g hg, h.lt h0 g hg⟩
theorem BysF.cut {D : Nat → Prop} {w : World} {v : Value} {l : List UInt8} (h : BysF D w v l) : BysF (fun g => D g ∧ g < w.heap.size) w v l := ⟨h.1, Sho.cut h.1 h.2⟩
theorem RwsF.cut {D : Nat → Prop} {w : World} {v : Value} {ls : List (List UInt8)} (h : RwsF D w v ls) : RwsF (fun g => D g ∧ g < w.heap.size) w v ls := by
 obtain ⟨us, h1, hf, h2⟩ := h
 exact ⟨us, h1, Sho.cut h1 hf, fun i hi => by obtain ⟨u, e, hu, hn⟩ := h2 i hi; exact ⟨u, e, hu, Sho.cut hu hn⟩⟩
theorem CgRow.cut {D : Nat → Prop} {w : World} {us : List Value} {ls : List CgD} (h : CgRow D w us ls) : CgRow (fun g => D g ∧ g < w.heap.size) w us ls :=
 ⟨h.1, fun i hi => by obtain ⟨p, q, h1, h2, h3, h4, h5, h6⟩ := h.2 i hi; exact ⟨p, q, h1, h2, h3, h4, h5.cut, h6.cut⟩⟩
theorem CgRow.snoc {D : Nat → Prop} {w : World} {us new : List Value} {ls : List CgD} {g : CgD} (h : CgRow D w us ls) (hn : CgRow D w new [g]) : CgRow D w (us ++ new) (ls ++ [g]) := by
 refine ⟨by rw [List.length_append, List.length_append, h.1, hn.1]; simp; omega, fun i hi => ?_⟩
 have hl := h.1
 by_cases hlt : i < ls.length
 ·obtain ⟨p, q, h1, h2, h3, h4, h5, h6⟩ := h.2 i hlt
  rw [List.getElem_append_left hlt]
  refine ⟨p, q, ?_, ?_, ?_, ?_, h5, h6⟩
  ·rw [List.getElem?_append_left (by omega)]; exact h1
  ·rw [List.getElem?_append_left (by omega)]; exact h2
  ·rw [List.getElem?_append_left (by omega)]; exact h3
  ·rw [List.getElem?_append_left (by omega)]; exact h4
 ·have e : i = ls.length := by simp at hi; omega
  subst e
  obtain ⟨p, q, h1, h2, h3, h4, h5, h6⟩ := hn.2 0 (by simp)
  rw [List.getElem_append_right (Nat.le_refl _)]
  simp only [Nat.sub_self]
  have e2 : ∀ j, (us ++ new)[ls.length * 4 + j]? = new[0 * 4 + j]? := fun j => by
   rw [List.getElem?_append_right (by omega)]
   congr 1
   omega
  exact ⟨p, q, (e2 0).trans h1, (e2 1).trans h2, (e2 2).trans h3, (e2 3).trans h4, h5, h6⟩
def OwnC (w : World) (base : Nat) (v : Value) (ls : List CgD) : Prop := ∃ us, w.ownsRow base 89 4 v ls.length us ∧ CgRow (fun g => base ≤ g ∧ g < w.heap.size ∧ v.ownBlock ≠ some g) w us ls
theorem OwnC.nil (w : World) (base : Nat) : OwnC w base (.slice none 0 0) [] := ⟨[], World.ownsRow_nil _ _ _ _, CgRow.nil _ _⟩
theorem OwnC.below {w w1 : World} {base : Nat} {v : Value} {ls : List CgD} (h : OwnC w base v ls) (hb : Below w.heap.size w w1) : OwnC w1 base v ls := by
 obtain ⟨us, h1, h2⟩ := h
 have hs := hb.size
 exact ⟨us, ownsRow_chg h1 (Chg.of_below (S := fun _ => False) hb) (fun _ _ h => h), (h2.chg (Chg.of_below (S := fun _ => False) hb) (fun _ _ h => h)).mono (fun g hg => ⟨hg.1, by have := hg.2.1; omega, hg.2.2⟩)⟩
end Go.Proofs.YtgeplpdcnanmnaaGreat
