/- slices.Clone at bytes; bytes.Equal, hash.Same. The reference's owners' signatures: what is right, what verifies, what is the same. The reference's owners' signatures: what verifies. The reference's owners: their trees of keys. The reference's owners: their key, their signatures. The reference's owners sign. The reference's checkpoints: what is right, what is the same. A row of one's own whose frozen place, if it has one, lies behind its last cell (what a conversion of a string leaves): appending to it. No program in sight. Steps of a region that draws its order, one by one: an operation that yields, one that is not wanted. No program in sight. Conditions: as each theorem states them. -/
import Derived.Test.YtlkgeifmppadmaaJb
import Derived.WalkSpells
import Derived.Lib.ConvBytes
import Derived.Lib.BufferRead
import Derived.Deep.RegionHeld3
import Derived.Test.YtlkgeifmppadmaaJa
namespace Go.Proofs.Ytlkgeifmppadmaa
open Go.RowKit
set_option linter.unusedVariables false
set_option linter.unusedSimpArgs false

theorem Sho.none {w : World} {n k c : Nat} {cs : List Value} (h : Sho w (.slice Option.none n c) n k cs) : n = 0 := by
  rcases Nat.eq_zero_or_pos n with h0 | h0
  · exact h0
  · obtain ⟨g, o, e, _⟩ := h.place h0
    cases e
set_option maxHeartbeats 1000000 in
theorem eqnil_bytes (w : World) (a : Option Addr) (n c n' c' : Nat) : (binOp .eql 30 (.slice a n c) (.slice none n' c')).run Try.prog w = .ok (.bool a.isNone) w := Lib.run_eql_slice_nil w _ _ a n c n' c' Try.underlying30
set_option maxRecDepth 100000 in
theorem clone_any (v : Value) (l : List UInt8) (hsm : l.length ≤ 1000000000000) (w : World) (hx : Bys w v l) :
    Calls Try.prog 48 #[v] w fun e w' => ∃ v', e = .returned v' ∧ OwnB w' w.heap.size v' l ∧ Below w.heap.size w w' := by
  obtain ⟨i0, hi0, hz0, hz1, hz2⟩ := info_parts info_u8
  obtain ⟨A, c, rfl⟩ := hx.form
  cases A with
  | none =>
    have h0 := Sho.none hx
    have HL := Lib.hid (List.length_eq_zero_iff.1 h0)
    have qn := eqnil_bytes
    go_enter Try.func48, Try.ntmps48
    go_wp2
    go_ret
    exact ⟨_, rfl, by rw [HL.out]; exact World.ownsRow_nil _ _ _ _, Below.refl _ _⟩
  | some a =>
    have HX := Lib.hid (hx.below ((Below.refl w.heap.size w).alloc (Nat.le_refl _) (.cells #[] 5)))
    have HNB : Hid (Blk (w.alloc (.cells #[] 5)) w.heap.size 5 []) := Lib.hid (Blk.new w 5 [])
    clear hx
    have qn := eqnil_bytes
    go_enter Try.func48, Try.ntmps48
    go_wp2_with (at_builtin; (refine wpList_append_any rfl (.tmp 5) (.tmp 6) 30 rfl w.heap.size 5 i0 (.int .u8 0) 1 1 Try.underlying30 hi0 hz0 hz1 hz2 rfl (by decide) _ 0 [] rfl (own_none HNB.out (Nat.le_refl _)) _ l.length (bys l) rfl HX.out.news (by unfold maxLen; omega) (by omega) (by simp) ?_); intro v2 W2 hown2 hgrow2; have HB2 : Hid (Below w.heap.size w W2) := Lib.hid (((Below.refl w.heap.size w).alloc (Nat.le_refl _) _).grown hgrow2 (by simp) (fun k e => by have e' : some w.heap.size = some k := e; injection e' with e'; omega)); have HO2 : Hid (OwnB W2 w.heap.size v2 l) := Lib.hid (by unfold OwnB; simpa only [Nat.zero_add, List.nil_append] using hown2); clear hown2 hgrow2)
    go_ret
    exact ⟨_, rfl, HO2.out, HB2.out⟩
theorem run_string_bys (w : World) (v : Value) (l : List UInt8) (h : Bys w v l) : (convert 30 9 v).run Try.prog w = .ok (.string ⟨l.toArray⟩) w := by
  obtain ⟨A, c, rfl⟩ := h.form
  rcases Nat.eq_zero_or_pos l.length with h0 | h0
  · have hl : l = [] := List.length_eq_zero_iff.1 h0
    subst hl
    cases A with
    | none => exact Lib.run_convert_nil_bytes w _ _ _ c Try.underlying30 Try.underlying5 Try.underlying9
    | some a => exact run_convert_bytes_back w _ _ _ a c [] Try.underlying30 Try.underlying5 Try.underlying9 (fun j hj => absurd hj (Nat.not_lt_zero _))
  · obtain ⟨g, o, rfl, -, -, -, -, hc⟩ := h.place h0
    exact run_convert_bytes_back w _ _ _ ⟨g, o, none⟩ c l Try.underlying30 Try.underlying5 Try.underlying9 (fun j hj => by rw [Go.WideShapes.add_plain]; exact hc j hj)
set_option maxRecDepth 100000 in
theorem equal_any (u v : Value) (l m : List UInt8) (w : World) (hu : Bys w u l) (hv : Bys w v m) :
    Calls Try.prog 65 #[u, v] w fun e w' => e = .returned (.bool (l == m)) ∧ w = w' := by
  have c1 := run_string_bys w u l hu
  have c2 := run_string_bys w v m hv
  clear hu hv
  go_enter Try.func65, Try.ntmps65
  go_wp2
  go_ret
  exact ⟨rfl, rfl⟩
theorem same_bytes (u v : Value) (l m : List UInt8) (w : World) (hu : Bys w u l) (hv : Bys w v m) :
    Calls Try.prog 46 #[u, v] w fun e w' => e = .returned (.bool (l == m)) ∧ w = w' := by
  have H := Lib.hid (equal_any u v l m w hu hv)
  clear hu hv
  go_enter Try.func46, Try.ntmps46
  go_wp2_with fail
  refine H.out.mono ?_
  rintro e w' ⟨rfl, rfl⟩
  go_wp2
  go_ret
  exact ⟨rfl, rfl⟩
end Go.Proofs.Ytlkgeifmppadmaa
namespace Go.Proofs.Ytlkgeifmppadmaa
open Go.RowKit
set_option linter.unusedVariables false
set_option linter.unusedSimpArgs false

structure SigD where
  index : Int
  parts : List (List UInt8)
  path : List (List UInt8)
/-- The three cells show a signature. -/
def SigAt (w : World) (i p q : Value) (s : SigD) : Prop := i = .int .i64 s.index ∧ Rws w p s.parts ∧ Rws w q s.path
def SigV (w : World) (v : Value) (s : SigD) : Prop := ∃ p q, v = .agg #[.int .i64 s.index, p, q] ∧ Rws w p s.parts ∧ Rws w q s.path
theorem SigV.below {w w1 : World} {v : Value} {s : SigD} (h : SigV w v s) (hb : Below w.heap.size w w1) : SigV w1 v s := by
  obtain ⟨p, q, e, h1, h2⟩ := h
  exact ⟨p, q, e, h1.below hb, h2.below hb⟩
def len32 (l : List UInt8) : Bool := l.length == 32
def rightB (s : SigD) : Bool := (decide (0 ≤ s.index) && decide (s.index < 16) && decide (s.parts.length = 64) && decide (s.path.length = 4)) && (s.parts.all len32 && s.path.all len32)
theorem rightB_facts {s : SigD} (h : rightB s = true) : 0 ≤ s.index ∧ s.index < 16 ∧ s.parts.length = 64 ∧ s.path.length = 4 ∧ (∀ i (h : i < s.parts.length), s.parts[i].length = 32) ∧ ∀ i (h : i < s.path.length), s.path[i].length = 32 := by
  simp only [rightB, Bool.and_eq_true, decide_eq_true_eq, List.all_eq_true, len32, beq_iff_eq] at h
  obtain ⟨⟨⟨⟨h1, h2⟩, h3⟩, h4⟩, h5, h6⟩ := h
  exact ⟨h1, h2, h3, h4, fun i hi => h5 _ (List.getElem_mem hi), fun i hi => h6 _ (List.getElem_mem hi)⟩
theorem all32_not {ls : List (List UInt8)} (i : Nat) (h : i < ls.length) (hn : ls[i].length ≠ 32) : ls.all len32 = false := by
  rw [List.all_eq_false]
  exact ⟨_, List.getElem_mem h, by simp [len32, hn]⟩
theorem all32_of {ls : List (List UInt8)} (h : ∀ i (h : i < ls.length), ls[i].length = 32) : ls.all len32 = true := by
  rw [List.all_eq_true]
  intro x hx
  obtain ⟨i, hi, rfl⟩ := List.getElem_of_mem hx
  simp [len32, h i hi]

set_option maxRecDepth 100000 in
set_option maxHeartbeats 2000000 in
theorem rright_any (v : Value) (s : SigD) (hp : s.parts.length ≤ 1000000000) (hq : s.path.length ≤ 1000000000) (hl : ∀ i (h : i < s.parts.length), s.parts[i].length ≤ 1000000000) (hl2 : ∀ i (h : i < s.path.length), s.path[i].length ≤ 1000000000) (w : World) (hv : SigV w v s) :
    Calls Try.prog 52 #[v] w fun e w' => e = .returned (.bool (rightB s)) ∧ Below w.heap.size w w' := by
  obtain ⟨p, q, rfl, h1, h2⟩ := hv
  obtain ⟨P, cp, rfl⟩ := h1.form
  obtain ⟨Q, cq, rfl⟩ := h2.form
  have HB0 := Lib.hid ((Below.refl w.heap.size w).alloc (Nat.le_refl _) (.cells #[.int .i64 s.index, .slice P s.parts.length cp, .slice Q s.path.length cq] 38))
  have HR := Lib.hid (And.intro h1 h2)
  have HL := Lib.hid (And.intro hl hl2)
  have HRB : Hid (rightB s = ((decide (0 ≤ s.index) && decide (s.index < 16) && decide (s.parts.length = 64) && decide (s.path.length = 4)) && (s.parts.all len32 && s.path.all len32))) := Lib.hid rfl
  clear h1 h2 hl hl2
  generalize rightB s = RB at *
  generalize s.index = ix at *
  generalize s.parts = Ps at *
  generalize s.path = Qs at *
  go_enter Try.func52, Try.ntmps52
  by_cases hok : 0 ≤ ix ∧ ix < 16 ∧ Ps.length = 64 ∧ Qs.length = 4
  · obtain ⟨k1, k2, k3, k4⟩ := hok
    have HK := Lib.hid (And.intro k3 k4)
    have HRB2 : Hid (RB = (Ps.all len32 && Qs.all len32)) := Lib.hid (by rw [HRB.out]; simp [k1, k2, k3, k4])
    have n3 : (((Ps.length : Nat) : Int) != 64) = false := by simp [k3]
    have n4 : (((Qs.length : Nat) : Int) != 4) = false := by simp [k4]
    clear k3 k4
    have HX2 : Hid (Blk ((w.alloc (.cells #[.int .i64 ix, .slice P Ps.length cp, .slice Q Qs.length cq] 38)).alloc (.cells #[.slice P Ps.length cp, .slice Q Qs.length cq] 31)) (w.heap.size + 1) 31 [.slice P Ps.length cp, .slice Q Qs.length cq]) := Lib.hid (blk2 w _ _ _ _ _ rfl).2.2
    go_wp2
    go_loopw [32] (fun v32 wr => ∃ k : Nat, v32 = .int .i64 k ∧ k ≤ 2 ∧ Hid (Below w.heap.size w wr ∧ Blk wr (w.heap.size + 1) 31 [.slice P Ps.length cp, .slice Q Qs.length cq] ∧ (1 ≤ k → Ps.all len32 = true) ∧ (2 ≤ k → Qs.all len32 = true))) (fun v _ => 2 - (intOf v).toNat)
    case atStart => exact ⟨0, rfl, by decide, Lib.hid ⟨HB0.out.alloc (by simp) _, HX2.out, fun h => by omega, fun h => by omega⟩⟩
    case round =>
      obtain ⟨k, rfl, hk, HI⟩ := hrel
      by_cases hlt : k < 2
      · obtain ⟨A, c, L, hc, HL2⟩ : ∃ A c L, wr.cell? ⟨w.heap.size + 1, k, none⟩ = some (.slice A (List.length L) c) ∧ Hid (Rws w (.slice A (List.length L) c) L ∧ L.length ≤ 1000000000 ∧ (∀ i (h : i < L.length), L[i].length ≤ 1000000000) ∧ ((k = 0 ∧ L = Ps) ∨ (k = 1 ∧ L = Qs))) := by
          obtain rfl | rfl : k = 0 ∨ k = 1 := by omega
          · exact ⟨P, cp, Ps, HI.out.2.1.cell 0 _ rfl, Lib.hid ⟨HR.out.1, hp, HL.out.1, .inl ⟨rfl, rfl⟩⟩⟩
          · exact ⟨Q, cq, Qs, HI.out.2.1.cell 1 _ rfl, Lib.hid ⟨HR.out.2, hq, HL.out.2, .inr ⟨rfl, rfl⟩⟩⟩
        have hLm : L.length ≤ 1000000000 := HL2.out.2.1
        go_wp2
        go_loopw [5] (fun v5 wr => ∃ i : Nat, v5 = .int .i64 i ∧ i ≤ L.length ∧ Hid (Below w.heap.size w wr ∧ Blk wr (w.heap.size + 1) 31 [.slice P Ps.length cp, .slice Q Qs.length cq] ∧ ∀ j (h : j < L.length), j < i → L[j].length = 32)) (fun v _ => L.length - (intOf v).toNat)
        case atStart => exact ⟨0, rfl, Nat.zero_le _, Lib.hid ⟨HI.out.1, HI.out.2.1, fun j h hj => by omega⟩⟩
        case round =>
          obtain ⟨i, rfl, hi, HJ⟩ := hrel
          by_cases hlt2 : i < L.length
          · obtain ⟨g, o, u, rfl, hg, -, -, hcu, hbu⟩ := HL2.out.1.at' i hlt2
            have p0 := (HJ.out.1.cell (p := ⟨g, o + i, none⟩) hg).trans hcu
            obtain ⟨A9, c9, rfl⟩ := hbu.form
            have hl9 := HL2.out.2.2.1 i hlt2
            clear hcu hbu hc
            by_cases h32 : L[i].length = 32
            · have hnl : (((L[i].length : Nat) : Int) != 32) = false := by simp [h32]
              have H32 := Lib.hid h32
              clear h32
              go_wp2
              go_roundw
              case rel => exact ⟨i + 1, by go_num, by omega, Lib.hid ⟨HJ.out.1, HJ.out.2.1, fun j h hj => by
                by_cases e : j = i
                · subst e; exact H32.out
                · exact HJ.out.2.2 j h (by omega)⟩⟩
              case measure => simp [intOf]; omega
            · have hnl : (((L[i].length : Nat) : Int) != 32) = true := by simp; omega
              have HF : Hid (RB = false) := Lib.hid (by
                rw [HRB2.out]
                have := all32_not i hlt2 h32
                rcases HL2.out.2.2.2 with ⟨_, rfl⟩ | ⟨_, rfl⟩
                · rw [this]; rfl
                · rw [this, Bool.and_false])
              have H32 := Lib.hid h32
              clear h32
              go_wp2
              go_ret
              exact ⟨by rw [HF.out]; rfl, HJ.out.1⟩
          · have HA : Hid (L.all len32 = true) := Lib.hid (all32_of (fun j h => HJ.out.2.2 j h (by omega)))
            go_wp2
            go_roundw
            case rel => exact ⟨k + 1, by go_num, by omega, Lib.hid ⟨HJ.out.1, HJ.out.2.1, fun h => by
              rcases HL2.out.2.2.2 with ⟨rfl, rfl⟩ | ⟨rfl, rfl⟩
              · exact HA.out
              · exact HI.out.2.2.1 (Nat.le_refl _), fun h => by
              rcases HL2.out.2.2.2 with ⟨rfl, rfl⟩ | ⟨rfl, rfl⟩
              · omega
              · exact HA.out⟩⟩
            case measure => simp [intOf]; omega
      · obtain rfl : k = 2 := by omega
        have HT : Hid (RB = true) := Lib.hid (by rw [HRB2.out, HI.out.2.2.1 (by decide), HI.out.2.2.2 (Nat.le_refl _)]; rfl)
        go_wp2
        go_ret
        exact ⟨by rw [HT.out]; rfl, HI.out.1⟩
  · have HF : Hid (RB = false) := Lib.hid (by
      rw [HRB.out]
      have : (decide (0 ≤ ix) && decide (ix < 16) && decide (Ps.length = 64) && decide (Qs.length = 4)) = false := by
        rw [Bool.eq_false_iff]
        intro h
        simp only [Bool.and_eq_true, decide_eq_true_eq] at h
        exact hok ⟨h.1.1.1, h.1.1.2, h.1.2, h.2⟩
      rw [this, Bool.false_and])
    by_cases k1 : ix < 0
    · go_wp2
      go_ret
      exact ⟨by rw [HF.out]; rfl, HB0.out⟩
    · by_cases k2 : 16 ≤ ix
      · go_wp2
        go_ret
        exact ⟨by rw [HF.out]; rfl, HB0.out⟩
      · by_cases k3 : Ps.length = 64
        · have k4 : Qs.length ≠ 4 := fun h => hok ⟨by omega, by omega, k3, h⟩
          have n3 : (((Ps.length : Nat) : Int) != 64) = false := by simp [k3]
          have n4 : (((Qs.length : Nat) : Int) != 4) = true := by simp; omega
          clear k3 k4 hok
          go_wp2
          go_ret
          exact ⟨by rw [HF.out]; rfl, HB0.out⟩
        · have n3 : (((Ps.length : Nat) : Int) != 64) = true := by simp; omega
          clear k3 hok
          go_wp2
          go_ret
          exact ⟨by rw [HF.out]; rfl, HB0.out⟩
end Go.Proofs.Ytlkgeifmppadmaa
namespace Go.Proofs.Ytlkgeifmppadmaa
open Go.RowKit
set_option linter.unusedVariables false
set_option linter.unusedSimpArgs false

/-- On which side a node stands. -/
def sideS (ix : Int) (h : Nat) : Int := bits .and .i64 (ix / 2 ^ h) 1
def upS (ix : Int) (path : List (List UInt8)) (r : List UInt8) : Nat → List UInt8
  | 0 => r
  | h + 1 => if (sideS ix h == 0) = true then tagH 14 [upS ix path r h, path.getD h []] else tagH 14 [path.getD h [], upS ix path r h]
theorem upS_length (ix : Int) (path : List (List UInt8)) (r : List UInt8) (hr : r.length = 32) (h : Nat) : (upS ix path r h).length = 32 := by
  induction h with
  | zero => exact hr
  | succ h ih =>
    unfold upS
    split
    · exact tagH_length _ _
    · exact tagH_length _ _
def verifyB (pub msg : List UInt8) (s : SigD) : Bool := rightB s && (upS s.index s.path (rootS msg s.parts) 4 == pub)
set_option maxRecDepth 100000 in
set_option maxHeartbeats 2000000 in
theorem rverify_any (vp vm v : Value) (pub msg : List UInt8) (s : SigD) (hpub : pub.length ≤ 1000000000) (hmsg : msg.length ≤ 1000000000) (hp : s.parts.length ≤ 1000000000) (hq : s.path.length ≤ 1000000000) (hl : ∀ i (h : i < s.parts.length), s.parts[i].length ≤ 1000000000) (hl2 : ∀ i (h : i < s.path.length), s.path[i].length ≤ 1000000000) (w : World) (hvp : Bys w vp pub) (hvm : Bys w vm msg) (hv : SigV w v s) :
    Calls Try.prog 32 #[vp, vm, v] w fun e w' => e = .returned (.bool (verifyB pub msg s)) ∧ Below w.heap.size w w' := by
  have HRI := Lib.hid (fun (wz : World) (v : Value) (hz : SigV wz v s) => rright_any v s hp hq hl hl2 wz hz)
  obtain ⟨p, q, rfl, h1, h2⟩ := hv
  obtain ⟨P, cp, rfl⟩ := h1.form
  obtain ⟨Q, cq, rfl⟩ := h2.form
  obtain ⟨A, c, rfl⟩ := hvp.form
  obtain ⟨B, d, rfl⟩ := hvm.form
  have HR := Lib.hid (And.intro h1 (And.intro h2 (And.intro hvp hvm)))
  have HVB : Hid (verifyB pub msg s = (rightB s && (upS s.index s.path (rootS msg s.parts) 4 == pub))) := Lib.hid rfl
  clear h1 h2 hvp hvm hl hl2
  generalize verifyB pub msg s = VB at *
  go_enter Try.func32, Try.ntmps32
  go_wp2_with fail
  refine calls_at (fun w1 => Below w.heap.size w w1 ∧ Blk w1 w.heap.size 38 [.int .i64 s.index, .slice P s.parts.length cp, .slice Q s.path.length cq]) ⟨(Below.refl w.heap.size w).alloc (Nat.le_refl _) _, Blk.new w 38 [.int .i64 s.index, .slice P s.parts.length cp, .slice Q s.path.length cq]⟩ ?_
  rintro w1 ⟨hb1, hk1⟩
  have H1 := Lib.hid (And.intro hb1 hk1)
  refine (HRI.out w1 _ ⟨_, _, rfl, HR.out.1.below hb1, HR.out.2.1.below hb1⟩).mono ?_
  clear hb1 hk1
  rintro e w2 ⟨rfl, h2⟩
  have H2 := Lib.hid (And.intro (H1.out.1.trans (h2.mono H1.out.1.size)) (H1.out.2.below h2))
  clear h2 H1
  cases hrb : rightB s with
  | false =>
    have HF : Hid (VB = false) := Lib.hid (by rw [HVB.out, hrb]; rfl)
    clear hrb
    go_wp2
    go_ret
    exact ⟨by rw [HF.out]; rfl, H2.out.1⟩
  | true =>
    obtain ⟨k1, k2, k3, k4, k5, k6⟩ := rightB_facts hrb
    have HK := Lib.hid (And.intro k3 (And.intro k4 (And.intro k5 k6)))
    have HVB2 : Hid (VB = (upS s.index s.path (rootS msg s.parts) 4 == pub)) := Lib.hid (by rw [HVB.out, hrb]; rfl)
    clear hrb k3 k4 k5 k6
    have q1 := H2.out.2.cell 1 _ rfl
    have q0 := H2.out.2.cell 0 _ rfl
    have q2 := H2.out.2.cell 2 _ rfl
    go_wp2_with fail
    refine (rroot_any _ _ msg s.parts HK.out.1 HK.out.2.2.1 hmsg w2 (HR.out.2.2.2.below H2.out.1) (HR.out.1.below H2.out.1)).mono ?_
    rintro e w3 ⟨v3, rfl, h3, h4⟩
    have HRL := Lib.hid (tagH_length 12 [rootAcc (digS msg) s.parts 64])
    have HRE : Hid (rootS msg s.parts = tagH 12 [rootAcc (digS msg) s.parts 64]) := Lib.hid rfl
    have H3 := Lib.hid (And.intro (H2.out.1.trans (h4.mono H2.out.1.size)) (And.intro (H2.out.2.below h4) (h3.bys)))
    clear h3 h4 q0 q1 q2
    go_wp2
    go_loopw [7, 9] (fun v7 v9 wr => ∃ h : Nat, v9 = .int .i64 h ∧ h ≤ 4 ∧ Hid (Below w.heap.size w wr ∧ Blk wr w.heap.size 38 [.int .i64 s.index, .slice P s.parts.length cp, .slice Q s.path.length cq] ∧ Bys wr v7 (upS s.index s.path (rootS msg s.parts) h))) (fun _ v _ => 4 - (intOf v).toNat)
    case atStart => exact ⟨0, rfl, by decide, H3⟩
    case round =>
      obtain ⟨h, rfl, hh, HI⟩ := hrel
      by_cases hlt : h < 4
      · have q0 := HI.out.2.1.cell 0 _ rfl
        have q2 := HI.out.2.1.cell 2 _ rfl
        have hpl : h < s.path.length := by have := HK.out.2.1; omega
        obtain ⟨g, o, un, rfl, hg, -, -, hcu, hbu⟩ := HR.out.2.1.at' h hpl
        have p0 := (HI.out.1.cell (p := ⟨g, o + h, none⟩) hg).trans hcu
        have hbn := hbu.below HI.out.1
        obtain ⟨A9, c9, rfl⟩ := hbn.form
        obtain ⟨A7, c7, rfl⟩ := HI.out.2.2.form
        have hlN : s.path[h].length = 32 := HK.out.2.2.2 h hpl
        have hlU := upS_length s.index s.path (rootS msg s.parts) (by rw [HRE.out]; exact HRL.out) h
        have HUP : Hid (upS s.index s.path (rootS msg s.parts) (h + 1) = if (sideS s.index h == 0) = true then tagH 14 [upS s.index s.path (rootS msg s.parts) h, s.path[h]] else tagH 14 [s.path[h], upS s.index s.path (rootS msg s.parts) h]) := Lib.hid (by
          show (if (sideS s.index h == 0) = true then tagH 14 [upS s.index s.path (rootS msg s.parts) h, s.path.getD h []] else tagH 14 [s.path.getD h [], upS s.index s.path (rootS msg s.parts) h]) = _
          rw [List.getD_eq_getElem?_getD, List.getElem?_eq_getElem hpl]; rfl)
        have eside : bits BinOp.and IntKind.i64 (s.index / 2 ^ h) 1 = sideS s.index h := rfl
        have hpc : ((h : Nat) : Int) < ((s.path.length : Nat) : Int) := by omega
        have H9 := Lib.hid (And.intro HI.out.2.2 hbn)
        have hU2E : ∃ U2, upS s.index s.path (rootS msg s.parts) (h + 1) = U2 := ⟨_, rfl⟩
        obtain ⟨U2, hU2E⟩ := hU2E
        rw [hU2E] at HUP
        have HU2E := Lib.hid hU2E
        clear hU2E hcu hbu hbn
        generalize upS s.index s.path (rootS msg s.parts) h = U at *
        generalize s.path[h] = N at *
        generalize sideS s.index h = SI at *
        have HL9 := Lib.hid (And.intro hlN hlU)
        clear hlN hlU
        have hsz := HI.out.1.size
        by_cases hside : (SI == 0) = true
        ·
          have HU2 : Hid (U2 = tagH 14 [U, N]) := Lib.hid (by rw [HUP.out, if_pos hside])
          have hal := (Below.refl wr.heap.size wr).alloc (Nat.le_refl _) (.cells #[.slice A7 U.length c7, .slice A9 N.length c9] 30)
          go_wp2_with fail
          refine (rtag_any 14 14 rfl _ [U, N] (by have := HL9.out; simp; omega) (by simp) _ (new2 30 (b := wr.heap.size) rfl H9.out.1 H9.out.2)).mono ?_
          rintro e w5 ⟨v5, rfl, h5, h6⟩
          have hb5 := hal.trans (h6.mono (by simp))
          have H5 := Lib.hid (And.intro (HI.out.1.trans (hb5.mono hsz)) (And.intro (HI.out.2.1.below hb5) h5.bys))
          clear h5 h6 hb5 hal
          go_wp2
          go_roundw
          case rel => exact ⟨h + 1, by go_num, by omega, Lib.hid ⟨H5.out.1, H5.out.2.1, by rw [HU2E.out, HU2.out]; exact H5.out.2.2⟩⟩
          case measure => simp [intOf]; omega
        ·
          have HU2 : Hid (U2 = tagH 14 [N, U]) := Lib.hid (by rw [HUP.out, if_neg hside])
          have hsf : (SI == 0) = false := by simpa using hside
          clear hside
          have hal := (Below.refl wr.heap.size wr).alloc (Nat.le_refl _) (.cells #[.slice A9 N.length c9, .slice A7 U.length c7] 30)
          go_wp2_with fail
          refine (rtag_any 14 14 rfl _ [N, U] (by have := HL9.out; simp; omega) (by simp) _ (new2 30 (b := wr.heap.size) rfl H9.out.2 H9.out.1)).mono ?_
          rintro e w5 ⟨v5, rfl, h5, h6⟩
          have hb5 := hal.trans (h6.mono (by simp))
          have H5 := Lib.hid (And.intro (HI.out.1.trans (hb5.mono hsz)) (And.intro (HI.out.2.1.below hb5) h5.bys))
          clear h5 h6 hb5 hal
          go_wp2
          go_roundw
          case rel => exact ⟨h + 1, by go_num, by omega, Lib.hid ⟨H5.out.1, H5.out.2.1, by rw [HU2E.out, HU2.out]; exact H5.out.2.2⟩⟩
          case measure => simp [intOf]; omega
      · obtain rfl : h = 4 := by omega
        have hbA := HR.out.2.2.1.below HI.out.1
        obtain ⟨A7, c7, rfl⟩ := HI.out.2.2.form
        have c1 := run_string_bys wr _ _ HI.out.2.2
        have c2 := run_string_bys wr _ _ hbA
        clear hbA
        generalize upS s.index s.path (rootS msg s.parts) 4 = U at *
        go_wp2
        go_ret
        exact ⟨by rw [HVB2.out]; rfl, HI.out.1⟩
end Go.Proofs.Ytlkgeifmppadmaa
namespace Go.Proofs.Ytlkgeifmppadmaa
open Go.RowKit
set_option linter.unusedVariables false
set_option linter.unusedSimpArgs false

def pubs (seed : List UInt8) (n : Nat) : List (List UInt8) := (List.range n).map (fun k : Nat => publicS seed (k : Int))
theorem pubs_succ (seed : List UInt8) (n : Nat) : pubs seed (n + 1) = pubs seed n ++ [publicS seed n] := by simp [pubs, List.range_succ]
theorem pubs_length (seed : List UInt8) (n : Nat) : (pubs seed n).length = n := by simp [pubs]
/-- The first n nodes above a level. -/
def abN (l : List (List UInt8)) : Nat → List (List UInt8)
  | 0 => []
  | n + 1 => abN l n ++ [tagH 14 [l.getD (2 * n) [], l.getD (2 * n + 1) []]]
theorem abN_length (l : List (List UInt8)) (n : Nat) : (abN l n).length = n := by
  induction n with
  | zero => rfl
  | succ n ih => show (abN l n ++ [_]).length = _; rw [List.length_append, ih]; rfl
theorem abN_32 (l : List (List UInt8)) (n : Nat) : ∀ i (h : i < (abN l n).length), (abN l n)[i].length = 32 := by
  induction n with
  | zero => intro i h; exact absurd h (Nat.not_lt_zero _)
  | succ n ih =>
    intro i h
    have e : abN l (n + 1) = abN l n ++ [tagH 14 [l.getD (2 * n) [], l.getD (2 * n + 1) []]] := rfl
    by_cases hi : i < (abN l n).length
    · simp only [e, List.getElem_append_left hi]; exact ih i hi
    · have : i = (abN l n).length := by rw [e] at h; simp at h; omega
      subst this
      simp only [e, List.getElem_append_right (Nat.le_refl _), Nat.sub_self, List.getElem_cons_zero]
      exact tagH_length _ _
def levelS (seed : List UInt8) : Nat → List (List UInt8)
  | 0 => pubs seed 16
  | h + 1 => abN (levelS seed h) ((levelS seed h).length / 2)
theorem levelS_length (seed : List UInt8) : (levelS seed 0).length = 16 ∧ (levelS seed 1).length = 8 ∧ (levelS seed 2).length = 4 ∧ (levelS seed 3).length = 2 ∧ (levelS seed 4).length = 1 := by
  have h0 : (levelS seed 0).length = 16 := pubs_length seed 16
  have h1 : (levelS seed 1).length = 8 := by show (abN _ _).length = 8; rw [abN_length, h0]
  have h2 : (levelS seed 2).length = 4 := by show (abN _ _).length = 4; rw [abN_length, h1]
  have h3 : (levelS seed 3).length = 2 := by show (abN _ _).length = 2; rw [abN_length, h2]
  have h4 : (levelS seed 4).length = 1 := by show (abN _ _).length = 1; rw [abN_length, h3]
  exact ⟨h0, h1, h2, h3, h4⟩
theorem levelS_two (seed : List UInt8) (h : Nat) (hh : h < 4) : ∃ K, (levelS seed h).length = 2 * K ∧ 1 ≤ K ∧ K ≤ 8 := by
  obtain ⟨h0, h1, h2, h3, h4⟩ := levelS_length seed
  obtain rfl | rfl | rfl | rfl : h = 0 ∨ h = 1 ∨ h = 2 ∨ h = 3 := by omega
  · exact ⟨8, h0, by decide, by decide⟩
  · exact ⟨4, h1, by decide, by decide⟩
  · exact ⟨2, h2, by decide, by decide⟩
  · exact ⟨1, h3, by decide, by decide⟩
theorem levelS_32 (seed : List UInt8) (h : Nat) : ∀ i (hi : i < (levelS seed h).length), (levelS seed h)[i].length = 32 := by
  cases h with
  | zero => intro i hi; show ((pubs seed 16)[i]'hi).length = 32; simp [pubs, publicS_length]
  | succ h => exact abN_32 _ _

/-- A row of one's own, of levels. -/
def OwnL (w : World) (base : Nat) (v : Value) (Ls : List (List (List UInt8))) : Prop :=
  ∃ us, w.ownsRow base 31 1 v Ls.length us ∧ ∀ i (h : i < Ls.length), ∃ u, us[i]? = some u ∧ RwsF (fun g => base ≤ g ∧ g < w.heap.size ∧ v.ownBlock ≠ some g) w u Ls[i]
theorem OwnL.chg {w w1 : World} {base : Nat} {v : Value} {Ls : List (List (List UInt8))} {T : Nat → Prop} (h : OwnL w base v Ls) (hc : Chg w w1 T) (hT : ∀ g, base ≤ g → g < w.heap.size → ¬ T g) : OwnL w1 base v Ls := by
  obtain ⟨us, h1, h2⟩ := h
  refine ⟨us, ownsRow_chg h1 hc (fun k hk => by have := World.ownsRow.lt h1 k hk; exact hT k this.1 this.2), fun i hi => ?_⟩
  obtain ⟨u, e, hu⟩ := h2 i hi
  exact ⟨u, e, (hu.chg hc (fun g hg => hT g hg.1 hg.2.1)).mono (fun g hg => ⟨hg.1, Nat.lt_of_lt_of_le hg.2.1 hc.size, hg.2.2⟩)⟩
theorem OwnL.push {w W : World} {base g cap : Nat} {v u : Value} {Ls : List (List (List UInt8))} {l : List (List UInt8)} {us : List Value} {t : TypeId} {cs : Array Value}
    (h1 : ∀ i (h : i < Ls.length), ∃ u, us[i]? = some u ∧ RwsF (fun g => base ≤ g ∧ g < w.heap.size ∧ v.ownBlock ≠ some g) w u Ls[i]) (hl : us.length = Ls.length)
    (hu : RwsF (fun g => base ≤ g ∧ g < w.heap.size ∧ v.ownBlock ≠ some g) w u l)
    (ho : W.ownsRow base 31 1 (.slice (some ⟨g, 0, none⟩) (Ls.length + 1) cap) (Ls.length + 1) (us ++ [u])) (hg : (w.alloc (.cells cs t)).grownBy W v.ownBlock) (hlie : v.ownBlock = some g ∨ g = w.heap.size + 1) :
    OwnL W base (.slice (some ⟨g, 0, none⟩) (Ls.length + 1) cap) (Ls ++ [l]) := by
  have hc : Chg w W (fun k => v.ownBlock = some k) := ((Chg.refl w _).alloc _).trans (Chg.of_grown hg) (fun i _ h => h.symm)
  have keep : ∀ (x : Value) (m : List (List UInt8)), RwsF (fun g => base ≤ g ∧ g < w.heap.size ∧ v.ownBlock ≠ some g) w x m → RwsF (fun k => base ≤ k ∧ k < W.heap.size ∧ (some g : Option Nat) ≠ some k) W x m := fun x m hx =>
    (hx.chg hc (fun k hk => hk.2.2)).mono (fun k hk => ⟨hk.1, Nat.lt_of_lt_of_le hk.2.1 hc.size, fun e => by
      injection e with e
      rcases hlie with hlie | hlie
      · exact hk.2.2 (by rw [hlie, e])
      · omega⟩)
  refine ⟨us ++ [u], by rw [List.length_append]; exact ho, fun i hi => ?_⟩
  by_cases hi' : i < Ls.length
  · obtain ⟨x, e, hx⟩ := h1 i hi'
    refine ⟨x, by rw [List.getElem?_append_left (by omega)]; exact e, ?_⟩
    rw [List.getElem_append_left hi']
    exact keep x _ hx
  · have : i = Ls.length := by simp at hi; omega
    subst this
    refine ⟨u, by rw [List.getElem?_append_right (by omega), hl]; simp, ?_⟩
    rw [List.getElem_append_right (Nat.le_refl _)]
    simp only [Nat.sub_self, List.getElem_cons_zero]
    exact keep u l hu
theorem chg_belowB {w w1 : World} {B : Nat} (h : Below B w w1) : Chg w w1 (fun k => B ≤ k) := ⟨h.os, h.tape, h.output, h.size, fun k hk hn => h.block k (by omega)⟩
theorem info_rows : (Try.prog.info? 31).map (fun i => (i.zero, i.size, i.bytes)) = some (some (.slice none 0 0), 1, 24) := by kernel_rfl
/-- An owner in memory. -/
def OwnerAt (w : World) (b : Nat) (seed : List UInt8) : Prop :=
  ∃ v vl us, Blk w b 84 [v, vl] ∧ Bys w v seed ∧ Sho w vl 5 1 us ∧ ∀ h, h ≤ 4 → ∃ u, us[h]? = some u ∧ Rws w u (levelS seed h)
theorem OwnerAt.below {w w1 : World} {b : Nat} {seed : List UInt8} (h : OwnerAt w b seed) (hb : Below w.heap.size w w1) : OwnerAt w1 b seed := by
  obtain ⟨v, vl, us, h1, h2, h3, h4⟩ := h
  exact ⟨v, vl, us, h1.below hb, h2.below hb, h3.below hb, fun k hk => by obtain ⟨u, e, hu⟩ := h4 k hk; exact ⟨u, e, hu.below hb⟩⟩

set_option maxRecDepth 100000 in
set_option maxHeartbeats 4000000 in
theorem rnew_any (v : Value) (seed : List UInt8) (hsm : seed.length ≤ 1000000000) (w : World) (hx : Bys w v seed) :
    Calls Try.prog 23 #[v] w fun e w' => e = .returned (.pointer (some ⟨w.heap.size, 0, none⟩)) ∧ OwnerAt w' w.heap.size seed ∧ Below w.heap.size w w' := by
  obtain ⟨i0, hi0, hz0, hz1, hz2⟩ := info_parts info_bytes
  obtain ⟨j0, hj0, hjz0, hjz1, hjz2⟩ := info_parts info_rows
  obtain ⟨A, c, rfl⟩ := hx.form
  have HX := Lib.hid hx
  clear hx
  go_enter Try.func23, Try.ntmps23
  go_wp2
  go_loopw [4, 5] (fun v4 v5 wr => ∃ i : Nat, v5 = .int .i64 i ∧ i ≤ 16 ∧ Hid (Below w.heap.size w wr ∧ Blk wr w.heap.size 84 [.slice A seed.length c, .slice none 0 0] ∧ OwnR wr (w.heap.size + 1) v4 (pubs seed i))) (fun _ v _ => 16 - (intOf v).toNat)
  case atStart => exact ⟨0, rfl, by decide, Lib.hid ⟨(Below.refl _ _).alloc (Nat.le_refl _) _, Blk.new w 84 [.slice A seed.length c, .slice none 0 0], OwnR.nil _ _⟩⟩
  case round =>
    obtain ⟨i, rfl, hi, HI⟩ := hrel
    have hszB : w.heap.size + 1 ≤ wr.heap.size := HI.out.2.1.lt
    by_cases hlt : i < 16
    · have HP := Lib.hid (fun (wz : World) (hz : Bys wz (.slice A seed.length c) seed) => rpublic_any (.slice A seed.length c) seed i (by omega) hsm wz hz)
      have HACC := Lib.hid (pubs_succ seed i)
      have hpl : (pubs seed i).length ≤ 100 := by rw [pubs_length]; omega
      generalize publicS seed (i : Int) = PB at *
      generalize pubs seed i = L at *
      obtain ⟨A4, c4, rfl⟩ := HI.out.2.2.rws.form
      go_wp2_with fail
      refine (HP.out wr (HX.out.below HI.out.1)).mono ?_
      rintro e w2 ⟨v2, rfl, h1, h2⟩
      obtain ⟨A2, c2, rfl⟩ := h1.form
      obtain ⟨us, hu1, hu2⟩ := HI.out.2.2.keep h2
      have H2 := Lib.hid (And.intro h1 (And.intro h2 (And.intro hu1 hu2)))
      have hsz2 := h2.size
      clear h1 h2 hu1 hu2
      go_wp2_with (at_builtin; (refine wpList_append_lies _ rfl (.tmp 15) (.tmp 19) 31 rfl (w.heap.size + 1) 30 i0 (.slice none 0 0) 1 24 Try.underlying31 hi0 hz0 hz1 hz2 rfl (by decide) _ L.length us rfl (World.ownsRow.alloc H2.out.2.2.1 _) ⟨w2.heap.size, 0, none⟩ 1 1 [.slice A2 PB.length c2] rfl rfl (World.news_of_block (blk_new _ _)) (by simp [Value.oneCell']) (by decide) (by unfold maxLen; omega) (by omega) (by simp; omega) (w2.heap.size + 1) (by simp) ?_); intro g3 c3 W3 hown3 hgrow3 hlie3 hlt3)
      have HR3 := Lib.hid (retr_push HI.out.2.2 hszB H2.out.2.1 H2.out.1 H2.out.2.2.2 (by have := H2.out.2.2.1.1; omega) hown3 hgrow3 hlie3)
      go_roundw
      case rel => exact ⟨i + 1, by go_num, by omega, Lib.hid ⟨HI.out.1.trans (HR3.out.2.mono (by omega)), HI.out.2.1.chg (chg_belowB HR3.out.2) (by omega), by rw [HACC.out]; exact HR3.out.1⟩⟩
      case measure => simp [intOf]; omega
    · obtain rfl : i = 16 := by omega
      rw [show ((16 : Nat) : Int) = 16 from rfl]
      have hL0 := (levelS_length seed).1
      have hfoot := HI.out.2.2.foot
      obtain ⟨A4, c4, rfl⟩ := HI.out.2.2.rws.form
      have HF := Lib.hid (And.intro HI.out.1 (And.intro HI.out.2.1 (show RwsF (fun g => w.heap.size + 1 ≤ g ∧ g < wr.heap.size) wr _ (levelS seed 0) from hfoot)))
      have HPL := Lib.hid (pubs_length seed 16)
      have q0 := HI.out.2.1.cell 0 _ rfl
      have q1 := HI.out.2.1.cell 1 _ rfl
      have hpe : pubs seed 16 = levelS seed 0 := rfl
      rw [hpe]
      clear hfoot HI hpe
      have HL0 := Lib.hid hL0
      clear hL0
      go_wp2_with (at_builtin; (refine wpList_append_lies _ rfl (.tmp 25) (.tmp 27) 82 rfl (w.heap.size + 1) 31 j0 (.slice none 0 0) 1 24 Try.underlying82 hj0 hjz0 hjz1 hjz2 rfl (by decide) _ 0 [] rfl (World.ownsRow_nil _ _ _ _) ⟨wr.heap.size, 0, none⟩ 1 1 [.slice A4 (levelS seed 0).length c4] rfl rfl (World.news_of_block (blk_new _ _)) (by simp [Value.oneCell']) (by decide) (by decide) (by decide) (by simp; omega) (wr.heap.size + 1) (by simp) ?_); intro g3 c3 W3 hown3 hgrow3 hlie3 hlt3; have HK3 := Lib.hid (Blk.grown (Blk.alloc HF.out.2.1 _) hgrow3 (by intro e; cases e)); have r1 := HK3.out.cell 1 _ rfl; have f1 := HK3.out.free 1)
      have hg3 : w.heap.size + 1 ≤ g3 := by rcases hlie3 with h | h; · cases h
                                            · omega
      have hc3 : Chg wr W3 (fun _ => False) := ((Chg.refl wr _).alloc _).trans (Chg.of_grown hgrow3) (fun i _ h => by cases h)
      have hOL : OwnL W3 (w.heap.size + 1) (.slice (some ⟨g3, 0, none⟩) 1 c3) [levelS seed 0] := by
        have := OwnL.push (w := wr) (base := w.heap.size + 1) (v := .slice none 0 0) (Ls := []) (us := []) (fun i h => absurd h (Nat.not_lt_zero _)) rfl (HF.out.2.2.mono (fun g hg => ⟨hg.1, hg.2, by intro e; cases e⟩)) hown3 hgrow3 hlie3
        simpa using this
      have hset : Chg W3 (W3.setCell ⟨w.heap.size, 1, none⟩ (.slice (some ⟨g3, 0, none⟩) 1 c3)) (fun k => k = w.heap.size) := (Chg.refl W3 _).setCell _ _ (fun _ => rfl)
      have HS := Lib.hid (show Below w.heap.size w (W3.setCell ⟨w.heap.size, 1, none⟩ (.slice (some ⟨g3, 0, none⟩) 1 c3)) ∧ (∃ vl, Blk (W3.setCell ⟨w.heap.size, 1, none⟩ (.slice (some ⟨g3, 0, none⟩) 1 c3)) w.heap.size 84 [.slice A seed.length c, vl] ∧ OwnL (W3.setCell ⟨w.heap.size, 1, none⟩ (.slice (some ⟨g3, 0, none⟩) 1 c3)) (w.heap.size + 1) vl ((List.range (0 + 1)).map (levelS seed))) ∧ RwsF (fun g => w.heap.size + 1 ≤ g ∧ g < (W3.setCell ⟨w.heap.size, 1, none⟩ (.slice (some ⟨g3, 0, none⟩) 1 c3)).heap.size) (W3.setCell ⟨w.heap.size, 1, none⟩ (.slice (some ⟨g3, 0, none⟩) 1 c3)) (.slice A4 (levelS seed 0).length c4) (levelS seed 0) from
        ⟨(HF.out.1.trans (hc3.below (by have := HF.out.1.size; omega) (fun k h => h.elim))).trans (hset.below (by have := HF.out.1.size; have := hc3.size; omega) (fun k hk => by omega)), ⟨_, HK3.out.set 1 _ (by simp), hOL.chg hset (fun g h1 h2 e => by omega)⟩, ((HF.out.2.2.chg hc3 (fun g hg h => h)).chg hset (fun g hg e => by omega)).mono (fun g hg => ⟨hg.1, by have := hc3.size; have := hset.size; omega⟩)⟩)
      clear hset hOL hc3 HK3 hown3 hgrow3 hlie3 hlt3 r1 f1 q0 q1 HF hg3
      generalize W3.setCell ⟨w.heap.size, 1, none⟩ (.slice (some ⟨g3, 0, none⟩) 1 c3) = W4 at *
      go_loopw [4] (fun v4 wr => ∃ h : Nat, h ≤ 4 ∧ Hid (Below w.heap.size w wr ∧ (∃ vl, Blk wr w.heap.size 84 [.slice A seed.length c, vl] ∧ OwnL wr (w.heap.size + 1) vl ((List.range (h + 1)).map (levelS seed))) ∧ RwsF (fun g => w.heap.size + 1 ≤ g ∧ g < wr.heap.size) wr v4 (levelS seed h))) (fun v _ => lenV v)
      case atStart => exact ⟨0, by decide, HS⟩
      case round =>
        clear HS hi hlt HPL HL0
        obtain ⟨h, hh, HI⟩ := hrel
        obtain ⟨A4, c4, rfl⟩ := HI.out.2.2.rws.form
        by_cases hlt : h < 4
        · obtain ⟨K, hK, hK1, hK8⟩ := levelS_two seed h hlt
          have HLV : Hid (levelS seed (h + 1) = abN (levelS seed h) K) := Lib.hid (by show abN (levelS seed h) ((levelS seed h).length / 2) = _; rw [hK]; congr 1; omega)
          have HL32 := Lib.hid (levelS_32 seed h)
          have HKK := Lib.hid hK
          have hLl : (levelS seed h).length ≤ 16 ∧ 2 ≤ (levelS seed h).length := by omega
          obtain ⟨hLl1, hLl2⟩ := hLl
          clear hK
          generalize hLe : levelS seed h = L at *
          have HLE := Lib.hid hLe
          clear hLe
          obtain ⟨wo, rfl⟩ : ∃ wo : World, wo = wr := ⟨_, rfl⟩
          have hdl : decide ((1 : Int) < (L.length : Int)) = true := by simp; omega
          go_wp2
          go_loopw [6, 7] (fun v6 v7 wr => ∃ (n : Nat), v7 = .int .i64 (2 * (n : Int)) ∧ n ≤ K ∧ Hid (Below wo.heap.size wo wr ∧ OwnR wr wo.heap.size v6 (abN L n))) (fun _ v _ => 40 - (intOf v).toNat)
          case atStart => exact ⟨0, rfl, Nat.zero_le _, Lib.hid ⟨Below.refl _ _, OwnR.nil _ _⟩⟩
          case round =>
            obtain ⟨n, rfl, hn, HJ⟩ := hrel
            by_cases hltn : n < K
            · have h2n : 2 * n + 1 < L.length := by have := HKK.out; omega
              obtain ⟨gl, ol, u1, rfl, hgl, -, -, hc1, hb1⟩ := HI.out.2.2.rws.at' (2 * n) (by omega)
              obtain ⟨gl', ol', u2, eA, -, -, -, hc2, hb2⟩ := HI.out.2.2.rws.at' (2 * n + 1) h2n
              injection eA with eA
              injection eA with eA1 eA2
              subst eA1 eA2
              obtain ⟨A1, c1, rfl⟩ := hb1.form
              obtain ⟨A2, c2, rfl⟩ := hb2.form
              have p1 := (HJ.out.1.cell (p := ⟨gl, ol + 2 * n, none⟩) hgl).trans hc1
              have p2 := (HJ.out.1.cell (p := ⟨gl, ol + (2 * n + 1), none⟩) hgl).trans hc2
              have hP := HL32.out (2 * n) (by omega)
              have hQ := HL32.out (2 * n + 1) h2n
              have HACC : Hid (abN L (n + 1) = abN L n ++ [tagH 14 [L[2 * n], L[2 * n + 1]]]) := Lib.hid (by
                show abN L n ++ [tagH 14 [L.getD (2 * n) [], L.getD (2 * n + 1) []]] = _
                rw [List.getD_eq_getElem?_getD, List.getD_eq_getElem?_getD, List.getElem?_eq_getElem h2n, List.getElem?_eq_getElem (show 2 * n < L.length by omega)]; rfl)
              have HBB := Lib.hid (And.intro (hb1.below HJ.out.1) (hb2.below HJ.out.1))
              clear hc1 hc2 hb1 hb2
              generalize L[2 * n] = P at *
              generalize L[2 * n + 1] = Q at *
              have HPQ := Lib.hid (And.intro hP hQ)
              clear hP hQ
              have hal : (abN L n).length ≤ 100 := by rw [abN_length]; omega
              obtain ⟨A6, c6, rfl⟩ := HJ.out.2.rws.form
              generalize abN L n = R at *
              generalize hT : tagH 14 [P, Q] = TG at *
              have HT := Lib.hid hT
              clear hT
              have hsz := HJ.out.1.size
              have hglw : gl < wr.heap.size := Nat.lt_of_lt_of_le hgl hsz
              have y1 : (2 : Int) * (n : Int) + 1 < (L.length : Int) := by omega
              have y0 : (2 : Int) * (n : Int) < (L.length : Int) := by omega
              have y2 : (0 : Int) ≤ 2 * (n : Int) := by omega
              have y3 : (0 : Int) ≤ 2 * (n : Int) + 1 := by omega
              have ew : IntKind.i64.wrap (2 * (n : Int) + 1) = 2 * (n : Int) + 1 := IntWalk.i64_in _ (by omega)
              have et : (2 * (n : Int) + 1).toNat = 2 * n + 1 := by omega
              have et0 : (2 * (n : Int)).toNat = 2 * n := by omega
              go_wp2
              go_region_held3 (fun w' => w'.cell? ⟨gl, ol + 2 * n, none⟩ = some (.slice A1 P.length c1) ∧ w'.cell? ⟨gl, ol + (2 * n + 1), none⟩ = some (.slice A2 Q.length c2))
                (first
                  | go_keep
                  | exact ⟨s1, s2⟩
                  | exact ⟨t1, t2⟩)
                (first
                  | (go_simp; go_at_call 30; refine (rtag_any 14 14 rfl _ [P, Q] (by have := HPQ.out; simp; omega) (by simp) _ (new2 (w := wr.drew) 30 (b := wr.heap.size) rfl HBB.out.1 HBB.out.2)).mono ?_; rintro e w5 ⟨v5, rfl, h5, h6⟩; rw [HT.out] at h5; obtain ⟨A5, c5, rfl⟩ := h5.form; have hbw : Below wr.heap.size wr w5 := ((Below.refl wr.heap.size wr).drew.alloc (Nat.le_refl _) (.cells #[.slice A1 P.length c1, .slice A2 Q.length c2] 30)).trans (h6.mono (by simp)); obtain ⟨us, hu1, hu2⟩ := HJ.out.2.keep hbw; have H5 := Lib.hid (And.intro (own_mono' h5 (show wr.heap.size ≤ _ by simp)) (And.intro hbw (And.intro hu1 hu2))); have hsz5 := hbw.size; have s1 := (hbw.cell (p := ⟨gl, ol + 2 * n, none⟩) hglw).trans p1; have s2 := (hbw.cell (p := ⟨gl, ol + (2 * n + 1), none⟩) hglw).trans p2; clear h5 h6 hbw hu1 hu2)
                  | (refine step_append_lies _ (by rfl) (.tmp 40) (.tmp 52) 31 (by rfl) wo.heap.size 30 i0 (.slice none 0 0) 1 24 Try.underlying31 hi0 hz0 hz1 hz2 rfl (by omega) _ R.length us (by rfl) (World.ownsRow.alloc H5.out.2.2.1 _) ⟨w5.heap.size, 0, none⟩ 1 1 [.slice A5 TG.length c5] (by rfl) (by rfl) (World.news_of_block (blk_new _ _)) (by simp [Value.oneCell']) (by omega) (by unfold maxLen; omega) (by omega) (by simp; omega) (w5.heap.size + 1) (by simp) ?_; intro g7 c7 W7 hown7 hgrow7 hlie7 hlt7; have HR7 := Lib.hid (retr_push HJ.out.2 hsz H5.out.2.1 H5.out.1 H5.out.2.2.2 (by have := H5.out.2.2.1.1; omega) hown7 hgrow7 hlie7); have t1 : W7.cell? ⟨gl, ol + 2 * n, none⟩ = some (.slice A1 P.length c1) := (HR7.out.2.cell (p := ⟨gl, ol + 2 * n, none⟩) hgl).trans p1; have t2 : W7.cell? ⟨gl, ol + (2 * n + 1), none⟩ = some (.slice A2 Q.length c2) := (HR7.out.2.cell (p := ⟨gl, ol + (2 * n + 1), none⟩) hgl).trans p2; clear hown7 hgrow7 hlie7 hlt7))
              go_wp2
              go_roundw
              case rel => exact ⟨n + 1, by go_num, by omega, Lib.hid ⟨HJ.out.1.trans HR7.out.2, by rw [HACC.out]; exact HR7.out.1⟩⟩
              case measure => simp [intOf]; omega
            · obtain rfl : n = K := by omega
              have y9 : (L.length : Int) ≤ 2 * (n : Int) := by have := HKK.out; omega
              obtain ⟨vl, hbo, hol⟩ := HI.out.2.1
              have hc7 : Chg wo wr (fun _ => False) := Chg.of_below HJ.out.1
              obtain ⟨A6, c6, rfl⟩ := HJ.out.2.rws.form
              have HVB : Hid (∀ k, vl.ownBlock = some k → k < wo.heap.size) := Lib.hid (fun k e => by obtain ⟨us0, k1, _⟩ := hol; exact (World.ownsRow.lt k1 k e).2)
              obtain ⟨us, hu1, hu2⟩ := hol.chg hc7 (fun _ _ _ h => h)
              have hb7 := hbo.chg hc7 (fun h => h)
              have q0 := hb7.cell 0 _ rfl
              have q1 := hb7.cell 1 _ rfl
              have hsw := HJ.out.1.size
              have hbw := HI.out.1.size
              have hlr : ((List.range (h + 1)).map (levelS seed)).length ≤ 5 := by simp; omega
              have HBO := Lib.hid (And.intro hb7 (And.intro hu1 hu2))
              have HUP := Lib.hid (HJ.out.2.foot)
              have HBW := Lib.hid (HI.out.1.trans (HJ.out.1.mono hbw))
              have hwb : w.heap.size + 1 ≤ wo.heap.size := hbo.lt
              clear hb7 hu1 hu2 hol hbo hc7
              rw [← HLV.out] at HUP
              have hlv : (levelS seed (h + 1)).length = (abN L n).length := by rw [HLV.out]
              rw [← hlv]
              have HLVV := Lib.hid hlv
              clear hlv
              generalize hLS : (List.range (h + 1)).map (levelS seed) = LS at *
              have HLS := Lib.hid hLS
              clear hLS
              have hvf : vl.ownBlock = none ∨ vl.ownBlock ≠ none := by by_cases e : vl.ownBlock = none <;> simp [e]
              obtain ⟨A1, c1, rfl⟩ := (Sho.own HBO.out.2.1).form
              go_wp2_with (at_builtin; (refine wpList_append_lies _ rfl (.tmp 59) (.tmp 61) 82 rfl (w.heap.size + 1) 31 j0 (.slice none 0 0) 1 24 Try.underlying82 hj0 hjz0 hjz1 hjz2 rfl (by decide) _ LS.length us rfl (World.ownsRow.alloc HBO.out.2.1 _) ⟨wr.heap.size, 0, none⟩ 1 1 [.slice A6 (levelS seed (h + 1)).length c6] rfl rfl (World.news_of_block (blk_new _ _)) (by simp [Value.oneCell']) (by decide) (by unfold maxLen; omega) (by omega) (by simp; omega) (wr.heap.size + 1) (by simp) ?_); intro g8 c8 W8 hown8 hgrow8 hlie8 hlt8; have HK8 := Lib.hid (Blk.grown (Blk.alloc HBO.out.1 _) hgrow8 (fun e => by have := (World.ownsRow.lt HBO.out.2.1 w.heap.size e.symm).1; omega)); have r1 := HK8.out.cell 1 _ rfl; have f1 := HK8.out.free 1)
              have hg8 : w.heap.size + 1 ≤ g8 := by
                rcases hlie8 with e | e
                · exact (World.ownsRow.lt HBO.out.2.1 g8 e).1
                · omega
              have hc8 : Chg wr W8 (fun k => (Value.slice A1 LS.length c1).ownBlock = some k) := ((Chg.refl wr _).alloc _).trans (Chg.of_grown hgrow8) (fun i _ h => h.symm)
              have hOL8 : OwnL W8 (w.heap.size + 1) (.slice (some ⟨g8, 0, none⟩) (LS.length + 1) c8) (LS ++ [levelS seed (h + 1)]) :=
                OwnL.push (w := wr) HBO.out.2.2 (by have := HBO.out.2.1.1; omega) (HUP.out.mono (fun g hg => ⟨by omega, hg.2, fun e => by have := HVB.out g e; omega⟩)) hown8 hgrow8 hlie8
              have hset : Chg W8 (W8.setCell ⟨w.heap.size, 1, none⟩ (.slice (some ⟨g8, 0, none⟩) (LS.length + 1) c8)) (fun k => k = w.heap.size) := (Chg.refl W8 _).setCell _ _ (fun _ => rfl)
              have hF8 : RwsF (fun g => w.heap.size + 1 ≤ g ∧ g < (W8.setCell ⟨w.heap.size, 1, none⟩ (.slice (some ⟨g8, 0, none⟩) (LS.length + 1) c8)).heap.size) (W8.setCell ⟨w.heap.size, 1, none⟩ (.slice (some ⟨g8, 0, none⟩) (LS.length + 1) c8)) (.slice A6 (levelS seed (h + 1)).length c6) (levelS seed (h + 1)) :=
                ((HUP.out.chg hc8 (fun g hg e => by have := HVB.out g e; omega)).chg hset (fun g hg e => by omega)).mono (fun g hg => ⟨by omega, by have := hc8.size; have := hset.size; omega⟩)
              go_roundw
              case rel => exact ⟨h + 1, by omega, Lib.hid ⟨(HBW.out.trans (hc8.below (by omega) (fun k hk => by have := (World.ownsRow.lt HBO.out.2.1 k hk).1; omega))).trans (hset.below (by have := hc8.size; omega) (fun k hk => by omega)), ⟨_, HK8.out.set 1 _ (by simp), by
                have e : (List.range (h + 1 + 1)).map (levelS seed) = LS ++ [levelS seed (h + 1)] := by rw [List.range_succ, List.map_append, HLS.out]; rfl
                rw [e]
                exact hOL8.chg hset (fun g k1 k2 k3 => by omega)⟩, hF8⟩⟩
              case measure => simp only [lenV]; have h1 := HLVV.out; rw [abN_length] at h1; have h2 := HKK.out; omega
        · obtain rfl : h = 4 := by omega
          have hl1 := (levelS_length seed).2.2.2.2
          have hd1 : ¬ (1 : Int) < ((levelS seed 4).length : Int) := by omega
          have HL1 := Lib.hid hl1
          clear hl1
          have HOW : Hid (OwnerAt wr w.heap.size seed) := Lib.hid (by
            obtain ⟨vl, k1, us, k2, k3⟩ := HI.out.2.1
            refine ⟨_, vl, us, k1, HX.out.below HI.out.1, Sho.own k2, fun q hq => ?_⟩
            obtain ⟨u, e, hu⟩ := k3 q (by simp; omega)
            exact ⟨u, e, by have := hu.rws; simpa using this⟩)
          go_wp2
          go_ret
          exact ⟨rfl, HOW.out, HI.out.1⟩
end Go.Proofs.Ytlkgeifmppadmaa
namespace Go.Proofs.Ytlkgeifmppadmaa
open Go.RowKit
set_option linter.unusedVariables false
set_option linter.unusedSimpArgs false

def ownerS (seed : List UInt8) : List UInt8 := (levelS seed 4).getD 0 []
theorem ownerS_length (seed : List UInt8) : (ownerS seed).length = 32 := by
  have h1 := (levelS_length seed).2.2.2.2
  have h2 := levelS_32 seed 4 0 (by omega)
  unfold ownerS
  rw [List.getD_eq_getElem?_getD, List.getElem?_eq_getElem (show 0 < (levelS seed 4).length by omega)]
  exact h2
set_option maxRecDepth 100000 in
set_option maxHeartbeats 1000000 in
theorem rpub_any (b : Nat) (seed : List UInt8) (w : World) (ho : OwnerAt w b seed) :
    Calls Try.prog 13 #[.pointer (some ⟨b, 0, none⟩)] w fun e w' => ∃ v, e = .returned v ∧ Bys w v (ownerS seed) ∧ w = w' := by
  obtain ⟨v, vl, us, k1, k2, k3, k4⟩ := ho
  obtain ⟨u, e4, hu⟩ := k4 4 (Nat.le_refl _)
  obtain ⟨Al, cl, rfl⟩ := k3.form
  obtain ⟨gl, ol, rfl, -, hgl, hcl, -, hcells⟩ := k3.place (by decide)
  have p4 := hcells 4 u e4
  have hl1 := (levelS_length seed).2.2.2.2
  obtain ⟨A4, c4, rfl⟩ := hu.form
  obtain ⟨g0, o0, u0, rfl, hg0, -, -, hcu, hbu⟩ := hu.at' 0 (by omega)
  rw [Nat.add_zero] at hcu
  have q1 := k1.cell 1 _ rfl
  have hl0 : (0 : Int) < ((levelS seed 4).length : Int) := by omega
  have HB : Hid (Bys w u0 (ownerS seed)) := Lib.hid (by
    unfold ownerS
    rw [List.getD_eq_getElem?_getD, List.getElem?_eq_getElem (show 0 < (levelS seed 4).length by omega)]
    exact hbu)
  clear hbu
  obtain ⟨A0, c0, rfl⟩ := HB.out.form
  clear hcells hl1 k4 hu k1 k2 k3 e4
  go_enter Try.func13, Try.ntmps13
  go_wp2
  go_ret
  exact ⟨_, rfl, HB.out, rfl⟩

/-- Whose node is shown beside a key's way. -/
def sibS (ix : Int) (h : Nat) : Int := bits .xor .i64 (ix / 2 ^ h) 1
theorem sib_ok : ∀ i : Fin 16, ∀ h : Fin 4, 0 ≤ sibS (i.val : Int) h.val ∧ sibS (i.val : Int) h.val * 2 ^ h.val < 16 := by decide +kernel
theorem sib_at (ix : Int) (h0 : 0 ≤ ix) (h1 : ix < 16) (h : Nat) (hh : h < 4) : 0 ≤ sibS ix h ∧ sibS ix h * 2 ^ h < 16 := by
  have := sib_ok ⟨ix.toNat, by omega⟩ ⟨h, hh⟩
  simpa [Int.toNat_of_nonneg h0] using this
def sigPath (seed : List UInt8) (ix : Int) : Nat → List (List UInt8)
  | 0 => []
  | h + 1 => sigPath seed ix h ++ [(levelS seed h).getD (sibS ix h).toNat []]
theorem sigPath_length (seed : List UInt8) (ix : Int) (h : Nat) : (sigPath seed ix h).length = h := by
  induction h with
  | zero => rfl
  | succ h ih => show (sigPath seed ix h ++ [_]).length = _; rw [List.length_append, ih]; rfl
theorem level_pow (seed : List UInt8) (h : Nat) (hh : h ≤ 4) : (levelS seed h).length * 2 ^ h = 16 := by
  obtain ⟨h0, h1, h2, h3, h4⟩ := levelS_length seed
  obtain rfl | rfl | rfl | rfl | rfl : h = 0 ∨ h = 1 ∨ h = 2 ∨ h = 3 ∨ h = 4 := by omega
  · rw [h0]
  · rw [h1]
  · rw [h2]
  · rw [h3]
  · rw [h4]
theorem sib_lt (seed : List UInt8) (ix : Int) (h0 : 0 ≤ ix) (h1 : ix < 16) (h : Nat) (hh : h < 4) : (sibS ix h).toNat < (levelS seed h).length := by
  obtain ⟨k0, k1⟩ := sib_at ix h0 h1 h hh
  have k2 := level_pow seed h (by omega)
  have : (sibS ix h).toNat * 2 ^ h < (levelS seed h).length * 2 ^ h := by
    rw [k2]
    have : (((sibS ix h).toNat * 2 ^ h : Nat) : Int) < 16 := by
      rw [Int.natCast_mul, Int.toNat_of_nonneg k0]
      simpa using k1
    omega
  exact Nat.lt_of_mul_lt_mul_right this
/-- What an owner signs. -/
def signS (seed : List UInt8) (ix : Int) (msg : List UInt8) : SigD := ⟨ix, partsS seed ix msg, sigPath seed ix 4⟩

/-- A row of one's own, of texts that lie below lo. -/
def OwnU (w : World) (lo base : Nat) (v : Value) (ls : List (List UInt8)) : Prop :=
  ∃ us, w.ownsRow base 30 1 v ls.length us ∧ ∀ i (h : i < ls.length), ∃ u, us[i]? = some u ∧ Bys w u ls[i] ∧ (0 < ls[i].length → ∀ g, u.ownBlock = some g → g < lo)
theorem OwnU.nil (w : World) (lo base : Nat) : OwnU w lo base (.slice none 0 0) [] := ⟨[], World.ownsRow_nil _ _ _ _, fun i h => absurd h (Nat.not_lt_zero _)⟩
theorem OwnU.rws {w : World} {lo base : Nat} {v : Value} {ls : List (List UInt8)} (h : OwnU w lo base v ls) : Rws w v ls := by
  obtain ⟨us, h1, h2⟩ := h
  exact ⟨us, Sho.own h1, fun i hi => by obtain ⟨u, e, hu, _⟩ := h2 i hi; exact ⟨u, e, hu⟩⟩
theorem OwnU.chg {w w1 : World} {lo base : Nat} {T : Nat → Prop} {v : Value} {ls : List (List UInt8)} (h : OwnU w lo base v ls) (hc : Chg w w1 T) (hT : ∀ g, T g → lo ≤ g ∧ g < base) : OwnU w1 lo base v ls := by
  obtain ⟨us, h1, h2⟩ := h
  refine ⟨us, ownsRow_chg h1 hc (fun k hk e => by have := (World.ownsRow.lt h1 k hk).1; have := hT k e; omega), fun i hi => ?_⟩
  obtain ⟨u, e, hx, hn⟩ := h2 i hi
  exact ⟨u, e, Sho.chgF hx (S := fun g => g < lo) hn hc (fun g hg e => by have := hT g e; omega), hn⟩
theorem OwnU.chg2 {w w1 : World} {lo base b : Nat} {v : Value} {ls : List (List UInt8)} (h : OwnU w lo base v ls) (hc : Chg w w1 (fun k => k = b)) (hb : lo ≤ b ∧ b < base) : OwnU w1 lo base v ls := h.chg hc (fun g hg => by omega)
theorem OwnU.push {w W : World} {lo base : Nat} {v v' u : Value} {ls : List (List UInt8)} {l : List UInt8} {us : List Value} {t : TypeId} {cs : Array Value} (hlo : lo ≤ base)
    (h0 : w.ownsRow base 30 1 v ls.length us) (h1 : ∀ i (h : i < ls.length), ∃ u, us[i]? = some u ∧ Bys w u ls[i] ∧ (0 < ls[i].length → ∀ g, u.ownBlock = some g → g < lo))
    (hu : Bys w u l) (hun : 0 < l.length → ∀ g, u.ownBlock = some g → g < lo)
    (ho : W.ownsRow base 30 1 v' (ls.length + 1) (us ++ [u])) (hg : (w.alloc (.cells cs t)).grownBy W v.ownBlock) : OwnU W lo base v' (ls ++ [l]) := by
  have hc : Chg w W (fun k => v.ownBlock = some k) := ((Chg.refl w _).alloc _).trans (Chg.of_grown hg) (fun i _ h => h.symm)
  have keep : ∀ (x : Value) (m : List UInt8), Bys w x m → (0 < m.length → ∀ g, x.ownBlock = some g → g < lo) → Bys W x m := fun x m hx hn =>
    Sho.chgF hx (S := fun g => g < lo) hn hc (fun g hg e => by have := (World.ownsRow.lt h0 g e).1; omega)
  have hl : us.length = ls.length := by have := h0.1; omega
  refine ⟨us ++ [u], by rw [List.length_append]; exact ho, fun i hi => ?_⟩
  by_cases hi' : i < ls.length
  · obtain ⟨x, e, hx, hn⟩ := h1 i hi'
    refine ⟨x, by rw [List.getElem?_append_left (by omega)]; exact e, ?_, ?_⟩
    · rw [List.getElem_append_left hi']; exact keep x _ hx hn
    · rw [List.getElem_append_left hi']; exact hn
  · have : i = ls.length := by simp at hi; omega
    subst this
    refine ⟨u, by rw [List.getElem?_append_right (by omega), hl]; simp, ?_, ?_⟩
    · rw [List.getElem_append_right (Nat.le_refl _)]; simpa using keep u l hu hun
    · intro h0
      exact hun (by rw [List.getElem_append_right (Nat.le_refl _)] at h0; simpa using h0)

/-- An owner whose blocks lie below lo. -/
def OwnerF (w : World) (lo b : Nat) (seed : List UInt8) : Prop :=
  ∃ v vl us, Blk w b 84 [v, vl] ∧ b < lo ∧ Bys w v seed ∧ (∀ g, v.ownBlock = some g → g < lo) ∧ Sho w vl 5 1 us ∧ (∀ g, vl.ownBlock = some g → g < lo) ∧ ∀ h, h ≤ 4 → ∃ u, us[h]? = some u ∧ RwsF (fun g => g < lo) w u (levelS seed h)
theorem RwsF.all {w : World} {v : Value} {ls : List (List UInt8)} (h : Rws w v ls) : RwsF (fun g => g < w.heap.size) w v ls := by
  obtain ⟨us, h1, h2⟩ := h
  exact ⟨us, h1, fun h0 g hg => Sho.lt h1 h0 g hg, fun i hi => by obtain ⟨u, e, hu⟩ := h2 i hi; exact ⟨u, e, hu, fun h0 g hg => Sho.lt hu h0 g hg⟩⟩
end Go.Proofs.Ytlkgeifmppadmaa
namespace Go.Proofs.Ytlkgeifmppadmaa
open Go.RowKit
set_option linter.unusedVariables false
set_option linter.unusedSimpArgs false

theorem under_sig : Try.prog.underlying 38 = some (.struct (Try.prog.fieldsOf 38)) := by kernel_rfl
theorem size_sig : (Try.prog.info? 38).map (·.size) = some 3 := by kernel_rfl
set_option maxRecDepth 100000 in
set_option maxHeartbeats 4000000 in
theorem rosign_any (b : Nat) (vm : Value) (seed msg : List UInt8) (ix : Int) (h0 : 0 ≤ ix) (h1 : ix < 16) (hsm : seed.length ≤ 1000000000) (hsm2 : msg.length ≤ 1000000000) (w : World) (ho : OwnerAt w b seed) (hm : Bys w vm msg) :
    Calls Try.prog 28 #[.pointer (some ⟨b, 0, none⟩), .int .i64 ix, vm] w fun e w' => ∃ v, e = .returned v ∧ SigV w' v (signS seed ix msg) ∧ Below w.heap.size w w' := by
  obtain ⟨i0, hi0, hz0, hz1, hz2⟩ := info_parts info_bytes
  obtain ⟨vs, vl, us, k1, k2, k3, k4⟩ := ho
  obtain ⟨As, cs, rfl⟩ := k2.form
  obtain ⟨Am, cm, rfl⟩ := hm.form
  obtain ⟨Al, cl, rfl⟩ := k3.form
  obtain ⟨gl, ol, rfl, -, hgl, hcl, -, hcells⟩ := k3.place (by decide)
  have HO := Lib.hid (And.intro k1 (And.intro k2 (And.intro hm (And.intro hcells k4))))
  have hbw := k1.lt
  have q0 := k1.cell 0 _ rfl
  clear k1 k2 k3 k4 hcells hm
  go_enter Try.func28, Try.ntmps28
  go_wp2_with fail
  refine calls_at (fun w1 => Below w.heap.size w w1 ∧ Blk w1 w.heap.size 38 [.int .i64 0, .slice none 0 0, .slice none 0 0]) ⟨(Below.refl w.heap.size w).alloc (Nat.le_refl _) _, Blk.new w 38 [.int .i64 0, .slice none 0 0, .slice none 0 0]⟩ ?_
  rintro w1 ⟨hb1, hk1⟩
  refine (rsign_any _ _ seed msg ix (by omega) hsm hsm2 w1 (HO.out.2.1.below hb1) (HO.out.2.2.1.below hb1)).mono ?_
  rintro e w2 ⟨v2, rfl, h2, h3⟩
  have hlt1 := hk1.lt
  have H2 := Lib.hid (And.intro (hb1.trans (h3.mono hb1.size)) (And.intro (hk1.below h3) (h2.foot.mono (fun g hg => (show w.heap.size < g ∧ g < w2.heap.size from ⟨by omega, hg.2⟩)))))
  obtain ⟨A2, c2, rfl⟩ := h2.rws.form
  clear hb1 hk1 h2 h3 q0
  have HPL := Lib.hid (partsS_length seed ix msg)
  have HSG : Hid (signS seed ix msg = ⟨ix, partsS seed ix msg, sigPath seed ix 4⟩) := Lib.hid rfl
  generalize partsS seed ix msg = PS at *
  have hsw := H2.out.2.1.lt
  go_wp2
  refine code_at (fun w3 => Below w.heap.size w w3 ∧ Blk w3 w.heap.size 38 [.int .i64 0, .slice none 0 0, .slice none 0 0] ∧ RwsF (fun g => w.heap.size < g ∧ g < w2.heap.size) w3 (.slice A2 PS.length c2) PS ∧ Blk w3 w2.heap.size 38 [.int .i64 ix, .slice A2 PS.length c2, .slice none 0 0]) ?_ ?_
  · have hal : Below w2.heap.size w2 (w2.alloc (.cells #[.int .i64 ix, .slice A2 PS.length c2, .slice none 0 0] 38)) := (Below.refl _ _).alloc (Nat.le_refl _) _
    exact ⟨H2.out.1.trans (hal.mono H2.out.1.size), H2.out.2.1.below hal, H2.out.2.2.chg (Chg.of_below (S := fun _ => False) hal) (fun g hg h => h), Blk.new w2 38 [.int .i64 ix, .slice A2 PS.length c2, .slice none 0 0]⟩
  intro w3 hw3
  have HW := Lib.hid hw3
  clear hw3 H2
  generalize w2.heap.size = B7 at *
  go_loopw [8] (fun v8 wr => ∃ h : Nat, v8 = .int .i64 h ∧ h ≤ 4 ∧ Hid (Below w.heap.size w wr ∧ Blk wr w.heap.size 38 [.int .i64 0, .slice none 0 0, .slice none 0 0] ∧ RwsF (fun g => w.heap.size < g ∧ g < B7) wr (.slice A2 PS.length c2) PS ∧ ∃ pv, Blk wr B7 38 [.int .i64 ix, .slice A2 PS.length c2, pv] ∧ OwnU wr w.heap.size (B7 + 1) pv (sigPath seed ix h))) (fun v _ => 4 - (intOf v).toNat)
  case atStart => exact ⟨0, rfl, by decide, Lib.hid ⟨HW.out.1, HW.out.2.1, HW.out.2.2.1, _, HW.out.2.2.2, OwnU.nil _ _ _⟩⟩
  case round =>
    clear HW
    obtain ⟨h, rfl, hh, HI⟩ := hrel
    by_cases hlt : h < 4
    · obtain ⟨pv, kb7, kpu⟩ := HI.out.2.2.2
      obtain ⟨ul, eul, hul⟩ := HO.out.2.2.2.2 h (by omega)
      obtain ⟨Ah, ch, rfl⟩ := hul.form
      have hsib := sib_lt seed ix h0 h1 h hlt
      have hsib0 := (sib_at ix h0 h1 h hlt).1
      obtain ⟨gh, oh, un, rfl, hgh, -, -, hcu, hbu⟩ := hul.at' (sibS ix h).toNat hsib
      have HACC : Hid (sigPath seed ix (h + 1) = sigPath seed ix h ++ [(levelS seed h)[(sibS ix h).toNat]]) := Lib.hid (by
        show sigPath seed ix h ++ [(levelS seed h).getD (sibS ix h).toNat []] = _
        rw [List.getD_eq_getElem?_getD, List.getElem?_eq_getElem hsib]; rfl)
      have esib : bits BinOp.xor .i64 (ix / 2 ^ h) 1 = ((sibS ix h).toNat : Int) := by rw [Int.toNat_of_nonneg hsib0]; rfl
      have hpl : (sigPath seed ix h).length ≤ 10 := by rw [sigPath_length]; omega
      have hslen : (((sibS ix h).toNat : Nat) : Int) < (((levelS seed h).length : Nat) : Int) := by omega
      obtain ⟨An, cn, rfl⟩ := hbu.form
      have HUN : Hid (0 < ((levelS seed h)[(sibS ix h).toNat]).length → ∀ g, (Value.slice An ((levelS seed h)[(sibS ix h).toNat]).length cn).ownBlock = some g → g < w.heap.size) := Lib.hid (fun hp g hg => Sho.lt hbu hp g hg)
      have HBU := Lib.hid (hbu.below HI.out.1)
      have r0 := (HI.out.1.cell (p := ⟨b, 1, none⟩) hbw).trans (HO.out.1.cell 1 _ rfl)
      have r1 := (HI.out.1.cell (p := ⟨gl, ol + h, none⟩) hgl).trans (HO.out.2.2.2.1 h _ eul)
      have r2 := (HI.out.1.cell (p := ⟨gh, oh + (sibS ix h).toNat, none⟩) hgh).trans hcu
      obtain ⟨us3, ku1, ku2⟩ := kpu
      obtain ⟨A3, c3, rfl⟩ := (Sho.own ku1).form
      have r3 := kb7.cell 2 _ rfl
      have HK := Lib.hid (And.intro kb7 (And.intro ku1 ku2))
      have hsz := HI.out.1.size
      have h7 := kb7.lt
      have hh5 : (h : Int) < 5 := by omega
      have hh0 : (0 : Int) ≤ (h : Int) := by omega
      have ehc : IntKind.u64.wrap (h : Int) = (h : Int) := by rw [show IntKind.u64.wrap (h : Int) = (h : Int) % 18446744073709551616 by simp [IntKind.wrap, IntKind.bits, IntKind.signed]]; omega
      clear hcu hbu kb7 ku1 ku2 hul eul hsib0
      generalize (levelS seed h)[(sibS ix h).toNat] = X at *
      generalize (sibS ix h).toNat = sb at *
      generalize levelS seed h = L at *
      generalize sigPath seed ix h = SP at *
      go_wp2
      go_region_law (first
        | ((refine step_append_any rfl (.tmp 23) (.tmp 38) 31 rfl (B7 + 1) 30 i0 (.slice none 0 0) 1 24 Try.underlying31 hi0 hz0 hz1 hz2 rfl (by decide) _ SP.length us3 rfl (by first | exact HK.out.2.1 | exact World.ownsRow.alloc HK.out.2.1 _) _ 1 [.slice An X.length cn] rfl (by first | exact news1 _ 30 _ rfl | exact news1_drew _ 30 _ rfl) (by unfold maxLen; omega) (by omega) (by simp; omega) ?_); intro v9 W9 hown9 hgrow9'
           obtain ⟨A9, c9, rfl⟩ := (Sho.own hown9).form
           have hgrow9 : (wr.alloc (.cells #[.slice An X.length cn] 30)).grownBy W9 (Value.slice A3 SP.length c3).ownBlock := ⟨hgrow9'.os, hgrow9'.tape, hgrow9'.output, hgrow9'.size, hgrow9'.block⟩
           have HC9 : Hid (OwnU W9 w.heap.size (B7 + 1) (.slice A9 (SP.length + 1) c9) (SP ++ [X]) ∧ Chg wr W9 (fun k => (Value.slice A3 SP.length c3).ownBlock = some k)) := Lib.hid ⟨OwnU.push (w := wr) (by omega) HK.out.2.1 HK.out.2.2 HBU.out HUN.out hown9 hgrow9, ((Chg.refl wr _).alloc _).trans (Chg.of_grown hgrow9) (fun i _ h => h.symm)⟩
           have HK9 : Hid (Blk W9 B7 38 [.int .i64 ix, .slice A2 PS.length c2, .slice A3 SP.length c3]) := Lib.hid (HK.out.1.chg HC9.out.2 (fun e => by have := (World.ownsRow.lt HK.out.2.1 B7 e).1; omega))
           have s3 := HK9.out.cell 2 _ rfl
           have f3 := HK9.out.free 2
           clear hown9 hgrow9 hgrow9'))
      all_goals
        have hset : Chg W9 (W9.setCell ⟨B7, 2, none⟩ (.slice A9 (SP.length + 1) c9)) (fun k => k = B7) := (Chg.refl W9 _).setCell _ _ (fun _ => rfl)
        have hC9 : Chg wr W9 (fun k => B7 + 1 ≤ k) := HC9.out.2.mono (fun k _ e => (World.ownsRow.lt HK.out.2.1 k e).1)
        have HALL := Lib.hid (show Below w.heap.size w (W9.setCell ⟨B7, 2, none⟩ (.slice A9 (SP.length + 1) c9)) ∧ Blk (W9.setCell ⟨B7, 2, none⟩ (.slice A9 (SP.length + 1) c9)) w.heap.size 38 [.int .i64 0, .slice none 0 0, .slice none 0 0] ∧ RwsF (fun g => w.heap.size < g ∧ g < B7) (W9.setCell ⟨B7, 2, none⟩ (.slice A9 (SP.length + 1) c9)) (.slice A2 PS.length c2) PS ∧ ∃ pv, Blk (W9.setCell ⟨B7, 2, none⟩ (.slice A9 (SP.length + 1) c9)) B7 38 [.int .i64 ix, .slice A2 PS.length c2, pv] ∧ OwnU (W9.setCell ⟨B7, 2, none⟩ (.slice A9 (SP.length + 1) c9)) w.heap.size (B7 + 1) pv (sigPath seed ix (h + 1)) from
          ⟨(HI.out.1.trans (hC9.below hsz (fun k hk => by omega))).trans (hset.below (by have := hC9.size; omega) (fun k hk => by omega)), (HI.out.2.1.chg hC9 (by omega)).setOther _ _ (fun e => by have e' : w.heap.size = B7 := e; omega), (HI.out.2.2.1.chg hC9 (fun g hg e => by omega)).chg hset (fun g hg e => by omega), _, HK9.out.set 2 _ (by simp), by rw [HACC.out]; exact HC9.out.1.chg hset (fun g hg => by omega)⟩)
        clear hset hC9 s3 f3
        go_wp2
        go_roundw
        case rel => exact ⟨h + 1, by go_num, by omega, HALL⟩
        case measure => simp [intOf]; omega
    · obtain rfl : h = 4 := by omega
      obtain ⟨pv, kb7, kpu⟩ := HI.out.2.2.2
      obtain ⟨A3, c3, rfl⟩ := kpu.rws.form
      have HK := Lib.hid (And.intro kb7 (And.intro HI.out.2.1 (And.intro HI.out.2.2.1 kpu)))
      have HBel := Lib.hid HI.out.1
      clear kb7 kpu HI
      have q0 := HK.out.1.cell 0 _ rfl
      have q1 := HK.out.1.cell 1 _ rfl
      have q2 := HK.out.1.cell 2 _ rfl
      have z0 := HK.out.2.1.cell 0 _ rfl
      have z1 := HK.out.2.1.cell 1 _ rfl
      have z2 := HK.out.2.1.cell 2 _ rfl
      have ff : ∀ k, wr.frozen? ⟨w.heap.size, k, none⟩ = false := fun k => HK.out.2.1.free k
      go_wp2
      have hch : Chg wr (((wr.setCell ⟨w.heap.size, 0, none⟩ (.int .i64 ix)).setCell ⟨w.heap.size, 1, none⟩ (.slice A2 PS.length c2)).setCell ⟨w.heap.size, 2, none⟩ (.slice A3 (sigPath seed ix 4).length c3)) (fun k => k = w.heap.size) := chg_cell (chg_cell (chg_cell (Chg.refl wr _) 0 _) 1 _) 2 _
      have hfin : Blk (((wr.setCell ⟨w.heap.size, 0, none⟩ (.int .i64 ix)).setCell ⟨w.heap.size, 1, none⟩ (.slice A2 PS.length c2)).setCell ⟨w.heap.size, 2, none⟩ (.slice A3 (sigPath seed ix 4).length c3)) w.heap.size 38 [.int .i64 ix, .slice A2 PS.length c2, .slice A3 (sigPath seed ix 4).length c3] := ((HK.out.2.1.set 0 _ (by simp)).set 1 _ (by simp)).set 2 _ (by simp)
      refine bodyPost_ret (v := .agg [.int .i64 ix, .slice A2 PS.length c2, .slice A3 (sigPath seed ix 4).length c3].toArray) ?_ ?_ ⟨_, rfl, ?_, ?_⟩
      · exact results_cell_row Try.results28 _ _ w.heap.size 38 _ (0, 0) _ rfl hfin under_sig rfl size_sig
      · rfl
      · rw [HSG.out]
        exact ⟨_, _, rfl, (HK.out.2.2.1.chg hch (fun g hg e => by omega)).rws, (HK.out.2.2.2.chg2 hch (by omega)).rws⟩
      · exact HBel.out.trans (hch.below HBel.out.size (fun k hk => by omega))
end Go.Proofs.Ytlkgeifmppadmaa
namespace Go.Proofs.Ytlkgeifmppadmaa
open Go.RowKit
set_option linter.unusedVariables false
set_option linter.unusedSimpArgs false

structure CkD where
  num : Int
  root : List UInt8
def CkV (w : World) (v : Value) (c : CkD) : Prop := ∃ p, v = .agg #[.int .i64 c.num, p] ∧ Bys w p c.root
theorem CkV.below {w w1 : World} {v : Value} {c : CkD} (h : CkV w v c) (hb : Below w.heap.size w w1) : CkV w1 v c := by
  obtain ⟨p, e, h1⟩ := h
  exact ⟨p, e, h1.below hb⟩
def ckB (c : CkD) : Bool := decide (0 ≤ c.num) && decide (c.num ≤ 256) && decide (c.root.length = 32)

set_option maxRecDepth 100000 in
theorem rckright_any (v : Value) (c : CkD) (hl : c.root.length ≤ 1000000000) (w : World) (hv : CkV w v c) :
    Calls Try.prog 31 #[v] w fun e w' => e = .returned (.bool (ckB c)) ∧ Below w.heap.size w w' := by
  obtain ⟨p, rfl, h1⟩ := hv
  obtain ⟨P, cp, rfl⟩ := h1.form
  have HB0 := Lib.hid ((Below.refl w.heap.size w).alloc (Nat.le_refl _) (.cells #[.int .i64 c.num, .slice P c.root.length cp] 36))
  have HRB : Hid (ckB c = (decide (0 ≤ c.num) && decide (c.num ≤ 256) && decide (c.root.length = 32))) := Lib.hid rfl
  clear h1
  generalize ckB c = RB at *
  generalize c.num = ix at *
  generalize c.root = R at *
  go_enter Try.func31, Try.ntmps31
  by_cases k1 : 0 ≤ ix
  · by_cases k2 : ix ≤ 256
    · have HF : Hid (RB = decide (R.length = 32)) := Lib.hid (by rw [HRB.out]; simp [k1, k2])
      by_cases k3 : R.length = 32
      · have n3 : (((R.length : Nat) : Int) == 32) = true := by simp [k3]
        have HT : Hid (RB = true) := Lib.hid (by rw [HF.out]; simp [k3])
        clear k3
        go_wp2
        go_ret
        exact ⟨by rw [HT.out]; rfl, HB0.out⟩
      · have n3 : (((R.length : Nat) : Int) == 32) = false := by simp; omega
        have HT : Hid (RB = false) := Lib.hid (by rw [HF.out]; simp [k3])
        clear k3
        go_wp2
        go_ret
        exact ⟨by rw [HT.out]; rfl, HB0.out⟩
    · have HT : Hid (RB = false) := Lib.hid (by rw [HRB.out]; simp [k2])
      go_wp2
      go_ret
      exact ⟨by rw [HT.out]; rfl, HB0.out⟩
  · have HT : Hid (RB = false) := Lib.hid (by rw [HRB.out]; simp [k1])
    go_wp2
    go_ret
    exact ⟨by rw [HT.out]; rfl, HB0.out⟩
end Go.Proofs.Ytlkgeifmppadmaa
namespace Go.Proofs.Ytlkgeifmppadmaa
open Go.RowKit
set_option linter.unusedVariables false

/-- A row of one's own; what is frozen of its block lies behind the row. -/
def OwnG (w : World) (base : Nat) (e : TypeId) (size : Nat) (v : Value) (n : Nat) (xs : List Value) : Prop :=
  w.ownsRow base e size v n xs ∨
  (xs.length = n * size ∧ ∃ g cap cur fz, v = .slice (some ⟨g, 0, none⟩) n cap ∧ base ≤ g ∧ w.heap[g]? = some (.cells cur e fz) ∧ cur.size ≤ fz.1 ∧ n ≤ cap ∧ cap ≤ maxLen ∧ cur.size = cap * size ∧ cur.toList.take (n * size) = xs)
namespace OwnG
variable {w w1 : World} {base : Nat} {e : TypeId} {size n : Nat} {v : Value} {xs : List Value}
theorem sho (h : OwnG w base e size v n xs) : Sho w v n size xs := by
  rcases h with h | ⟨hl, g, cap, cur, fz, rfl, hb, hg, -, hn, hc, hs, ht⟩
  · exact Sho.own h
  · refine ⟨hl, .inr ⟨g, 0, cap, rfl, hn, hc, (Array.getElem?_eq_some_iff.1 hg).1, fun j u hj => ?_⟩⟩
    rw [← ht, List.getElem?_take] at hj
    split at hj
    · simp only [World.cell?, hg, Nat.zero_add]
      simpa using hj
    · cases hj
theorem lt (h : OwnG w base e size v n xs) : ∀ k, v.ownBlock = some k → base ≤ k ∧ k < w.heap.size := by
  rcases h with h | ⟨hl, g, cap, cur, fz, rfl, hb, hg, -⟩
  · exact fun k hk => World.ownsRow.lt h k hk
  · intro k hk
    simp [Value.ownBlock] at hk
    subst hk
    exact ⟨hb, (Array.getElem?_eq_some_iff.1 hg).1⟩
theorem chg {S : Nat → Prop} (h : OwnG w base e size v n xs) (hc : Chg w w1 S) (hn : ∀ k, v.ownBlock = some k → ¬ S k) : OwnG w1 base e size v n xs := by
  rcases h with h | ⟨hl, g, cap, cur, fz, rfl, hb, hg, r⟩
  · exact .inl (ownsRow_chg h hc hn)
  · exact .inr ⟨hl, g, cap, cur, fz, rfl, hb, (hc.block g (Array.getElem?_eq_some_iff.1 hg).1 (hn g (by simp [Value.ownBlock]))).trans hg, r⟩
theorem mono {b' : Nat} (h : OwnG w base e size v n xs) (hb : b' ≤ base) : OwnG w b' e size v n xs := by
  rcases h with h | ⟨hl, g, cap, cur, fz, rfl, hbg, r⟩
  · exact .inl (own_mono' h hb)
  · exact .inr ⟨hl, g, cap, cur, fz, rfl, Nat.le_trans hb hbg, r⟩
end OwnG
section
variable {P : Program} {w : World}
theorem store_seg (g o : Nat) (t : TypeId) (fz : Nat × Nat) (vs : List Value) : ∀ (i : Nat) (cur : Array Value) (w : World), w.heap[g]? = some (.cells cur t fz) → cur.size ≤ fz.1 → o + i + vs.length ≤ cur.size → (∀ v ∈ vs, v.oneCell' = true) →
    ∃ cur', cur'.size = cur.size ∧ cur'.toList.take (o + i + vs.length) = cur.toList.take (o + i) ++ vs ∧ (storeCells ⟨g, o, none⟩ vs i).run P w = .ok () (w.setRow g cur') := by
  induction vs with
  | nil =>
    intro i cur w hg _ _ _
    refine ⟨cur, rfl, by simp, ?_⟩
    rw [setRow_self w g cur t fz hg]
    rfl
  | cons v rest ih =>
    intro i cur w hg hf hl h1
    simp only [List.length_cons] at hl
    have hi : o + i < cur.size := by omega
    have ea : (⟨g, o, none⟩ : Addr).add i = ⟨g, o + i, none⟩ := Go.WideShapes.add_plain _ _ _
    have ec : w.cell? ⟨g, o + i, none⟩ = some cur[o + i] := by simp [World.cell?, hg, hi]
    have ef : w.frozen? ⟨g, o + i, none⟩ = false := by
      obtain ⟨lo, hi'⟩ := fz
      have : ¬ lo ≤ o + i := by simp only at hf; omega
      simp [World.frozen?, hg, this]
    have es : (store ((⟨g, o, none⟩ : Addr).add i) v).run P w = .ok () (w.setRow g (cur.setIfInBounds (o + i) v)) := by
      rw [ea, run_store P w _ v _ (h1 v (by simp)), ec]
      simp [ef, setCell_eq_setRow w g (o + i) cur t fz v hg]
    obtain ⟨cur', k1, k2, k3⟩ := ih (i + 1) (cur.setIfInBounds (o + i) v) (w.setRow g (cur.setIfInBounds (o + i) v)) (setRow_heap w g cur _ t _ hg) (by simpa using hf) (by simp; omega) (fun x hx => h1 x (by simp [hx]))
    refine ⟨cur', by simpa using k1, ?_, ?_⟩
    · have e1 : o + i + (v :: rest).length = o + (i + 1) + rest.length := by simp; omega
      rw [e1, k2]
      have e2 : (cur.setIfInBounds (o + i) v).toList.take (o + (i + 1)) = cur.toList.take (o + i) ++ [v] := by
        have hlt : o + i < (cur.setIfInBounds (o + i) v).toList.length := by simpa using hi
        rw [show o + (i + 1) = (o + i) + 1 from rfl, List.take_succ_eq_append_getElem hlt]
        simp [Array.toList_setIfInBounds, List.take_set_of_le]
      rw [e2, List.append_assoc]
      rfl
    · simp only [storeCells, Sem.run_bind, es, Result.andThen_ok, k3, setRow_setRow]

theorem run_append_g (base : Nat) (t ty e : TypeId) (i : TypeInfo) (z : Value) (size bytes : Nat) (ht : P.underlying t = some (.slice e)) (hi : P.info? e = some i) (hz : i.zero = some z)
    (hsize : i.size = size) (hby : i.bytes = bytes) (hzs : z.cells.size = size) (hsz : 0 < size)
    (v : Value) (n : Nat) (xs : List Value) (hown : OwnG w base e size v n xs)
    (x : Value) (m : Nat) (news : List Value) (hx : NewsOf w x m size news)
    (h63 : n + m ≤ maxLen) (hbytes : (n + m) * bytes ≤ 140737488355328) (hbase : base ≤ w.heap.size) :
    ∃ v' w', (Builtin.append_ #[t, t] ty #[v, x]).run P w = .ok v' w' ∧ OwnG w' base e size v' (n + m) (xs ++ news) ∧ w.grownBy w' v.ownBlock := by
  rcases hown with hown | ⟨hl, g, cap, cur, fz, rfl, hb, hg, hf, hn, hc, hs, htk⟩
  · obtain ⟨v', w', r, h2, h3⟩ := run_append_any (P := P) base t ty e i z size bytes ht hi hz hsize hby hzs hsz v n xs hown x m news hx h63 hbytes hbase
    exact ⟨v', w', r, .inl h2, h3⟩
  · subst hsize
    subst hby
    obtain ⟨hnl, h1, A, c, rfl, hA⟩ := hx
    rcases hA with rfl | ⟨ad, rfl, hnews⟩
    · have hnil : news = [] := List.eq_nil_of_length_eq_zero (by simpa using hnl)
      subst hnil
      refine ⟨.slice (some ⟨g, 0, none⟩) n cap, w, ?_, .inr ⟨by simpa using hl, g, cap, cur, fz, rfl, hb, hg, hf, hn, hc, hs, by simpa using htk⟩, ⟨rfl, rfl, rfl, Nat.le_refl _, fun _ _ _ => rfl⟩⟩
      have hfc : (Builtin.firstCells i.size 0 (.slice A 0 c)).run P w = .ok #[] w := by
        cases A <;> simp [Builtin.firstCells, loadCells, loadCellsFrom]
      simp [Builtin.append_, run_underlying ht, sizeOf, typeInfo, hi, Builtin.lenOf, hfc, hn, storeCells]
    · have hsm : n + m ≤ 9223372036854775807 := by simp only [maxLen] at h63; omega
      have hlen : (xs ++ news).length = (n + m) * i.size := by rw [List.length_append, hl, hnl, Nat.add_mul]
      by_cases hroom : n + m ≤ cap
      · have hfit : n * i.size + news.length ≤ cur.size := by rw [hnl, hs, ← Nat.add_mul]; exact Nat.mul_le_mul_right _ hroom
        have hfc := run_firstCells_some (P := P) w i.size m ad m c news hnl hnews
        obtain ⟨cur', k1, k2, k3⟩ := store_seg (P := P) g (n * i.size) e fz news 0 cur w hg hf (by simpa using hfit) h1
        refine ⟨.slice (some ⟨g, 0, none⟩) (n + m) cap, w.setRow g cur', ?_, .inr ⟨hlen, g, cap, cur', fz, rfl, hb, setRow_heap w g cur _ e _ hg, by omega, hroom, hc, by omega, ?_⟩, ⟨rfl, rfl, rfl, by simp, fun k _ hk => setRow_other w g k _ (fun e => hk (by simp [Value.ownBlock, e]))⟩⟩
        · simp [Builtin.append_, run_underlying ht, sizeOf, typeInfo, hi, Builtin.lenOf, hroom, hfc, Addr.add_lit, k3]
        · rw [Nat.add_mul, ← hnl]
          rw [Nat.add_zero] at k2
          rw [k2, htk]
      · have holds : ∀ j u, xs[j]? = some u → w.cell? ((⟨g, 0, none⟩ : Addr).add j) = some u := by
          intro j u hj
          rw [Go.WideShapes.add_plain, Nat.zero_add]
          rw [← htk, List.getElem?_take] at hj
          split at hj
          · simp only [World.cell?, hg]
            simpa using hj
          · cases hj
        have hr := run_append_grow (P := P) w t ty e i z ht hi hz ⟨g, 0, none⟩ n cap xs hl holds ad m c news hnl hnews (by omega) (by omega) (growslice_fits (by omega) hbytes)
        have hge := grownCap_ge w (n + m) cap e
        have hcm2 : grownCap w (n + m) cap e ≤ maxLen := grownCap_le_maxLen w (n + m) cap e h63
        refine ⟨_, _, hr, .inl ⟨hlen, .inr ⟨w.heap.size, _, _, rfl, hbase, heap_alloc_new w.drew _, hge, hcm2, ?_, ?_⟩⟩, ⟨rfl, rfl, rfl, by simp, fun k hk _ => heap_alloc_old w.drew _ hk⟩⟩
        · simp only [Array.size_append, List.size_toArray, size_zeroCells, hzs, hl, hnl, ← Nat.add_mul]
          congr 1
          omega
        · simp only [Array.toList_append, List.append_assoc]
          rw [← List.append_assoc, ← hlen]
          exact List.take_left
theorem wpList_append_g {ops : Array Oper} {rest : List Oper} {o : Oper} {a : Act} {Q : Exit → Act → World → Prop} (hgd : o.guard = none) (s x : Operand) (t : TypeId)
    (ho : o.op = .call { callee := .builtin .append, args := #[s, x], argTypes := #[t, t] })
    (base : Nat) (e : TypeId) (i : TypeInfo) (z : Value) (size bytes : Nat) (ht : P.underlying t = some (.slice e)) (hi : P.info? e = some i) (hz : i.zero = some z)
    (hsize : i.size = size) (hby : i.bytes = bytes) (hzs : z.cells.size = size) (hsz : 0 < size)
    (v : Value) (n : Nat) (xs : List Value) (hs : a.eval s = v) (hown : OwnG w base e size v n xs)
    (y : Value) (m : Nat) (news : List Value) (hy : a.eval x = y) (hx : NewsOf w y m size news)
    (h63 : n + m ≤ maxLen) (hbytes : (n + m) * bytes ≤ 140737488355328) (hbase : base ≤ w.heap.size)
    (h : ∀ v' w', OwnG w' base e size v' (n + m) (xs ++ news) → w.grownBy w' v.ownBlock → wpList P ops Q rest (a.put o.dst v') w') : wpList P ops Q (o :: rest) a w :=
  wpList_plain hgd fun _ hK => by
    obtain ⟨v', w', hr, h2, h3⟩ := run_append_g (P := P) base t o.type e i z size bytes ht hi hz hsize hby hzs hsz v n xs hown y m news hx h63 hbytes hbase
    unfold Oper.wp execOp
    simp only [ho, resolve, invoke, builtin, Sem.run_bind, Sem.run_pure, Result.andThen_ok, List.map_toArray, List.map_cons, List.map_nil, hs, hy, hr]
    exact hK _ _ (h v' w' h2 h3)
theorem step_append_g {ops : Array Oper} {o : Oper} {a : Act} {K : Act → World → Prop} {Q : Exit → Act → World → Prop} {E : Prop} (hgd : o.guard = none) (s x : Operand) (t : TypeId)
    (ho : o.op = .call { callee := .builtin .append, args := #[s, x], argTypes := #[t, t] })
    (base : Nat) (e : TypeId) (i : TypeInfo) (z : Value) (size bytes : Nat) (ht : P.underlying t = some (.slice e)) (hi : P.info? e = some i) (hz : i.zero = some z)
    (hsize : i.size = size) (hby : i.bytes = bytes) (hzs : z.cells.size = size) (hsz : 0 < size)
    (v : Value) (n : Nat) (xs : List Value) (hs : a.eval s = v) (hown : OwnG w base e size v n xs)
    (y : Value) (m : Nat) (news : List Value) (hy : a.eval x = y) (hx : NewsOf w y m size news)
    (h63 : n + m ≤ maxLen) (hbytes : (n + m) * bytes ≤ 140737488355328) (hbase : base ≤ w.heap.size)
    (h : ∀ v' w', OwnG w' base e size v' (n + m) (xs ++ news) → w.grownBy w' v.ownBlock → K (a.put o.dst v') w') :
    if Region.wanted o (yielded ops a.tmps) = true then Oper.wp P o a w K Q else E := by
  have hw : Region.wanted o (yielded ops a.tmps) = true := by simp [Region.wanted, hgd]
  rw [if_pos hw]
  obtain ⟨v', w', hr, h2, h3⟩ := run_append_g (P := P) base t o.type e i z size bytes ht hi hz hsize hby hzs hsz v n xs hown y m news hx h63 hbytes hbase
  unfold Oper.wp execOp
  simp only [ho, resolve, invoke, builtin, Sem.run_bind, Sem.run_pure, Result.andThen_ok, List.map_toArray, List.map_cons, List.map_nil, hs, hy, hr]
  exact h v' w' h2 h3
/-- What a conversion of a string leaves: a row of one's own. -/
theorem bytes_own (w : World) (base : Nat) (e : TypeId) (s : ByteArray) (hb : base ≤ w.heap.size) (hm : s.size ≤ maxLen) :
    OwnG (Lib.bytesWorld w e s) base e 1 (.slice (some ⟨w.heap.size, 0, none⟩) s.size (grownCap w s.size 0 e)) s.size (s.data.toList.map fun b => Value.int .u8 b.toNat) ∧ Below w.heap.size w (Lib.bytesWorld w e s) := by
  have hge := grownCap_ge w s.size 0 e
  have hcm := grownCap_le_maxLen w s.size 0 e hm
  have hsz : (Lib.bytesCells w e s).size = grownCap w s.size 0 e := by
    have : s.data.size = s.size := rfl
    simp [Lib.bytesCells, this]
    try omega
  refine ⟨.inr ⟨by simp, w.heap.size, _, _, _, rfl, hb, Lib.bytesWorld_at_new w e s, Nat.le_refl _, hge, hcm, by rw [hsz, Nat.mul_one], ?_⟩, ⟨rfl, rfl, rfl, by rw [Lib.bytesWorld_size]; omega, fun k hk => Lib.bytesWorld_at_old w e s k hk⟩⟩
  have : s.data.size = s.size := rfl
  simp only [Lib.bytesCells, Array.toList_append, Array.toList_map, Nat.mul_one]
  rw [List.take_append_of_le_length (by simp <;> omega), List.take_of_length_le (by simp <;> omega)]
end
end Go.Proofs.Ytlkgeifmppadmaa
namespace Go.Proofs.Ytlkgeifmppadmaa
open Go.RowKit
set_option linter.unusedVariables false
section
variable {P : Program} {ops : Array Oper} {Q : Exit → Act → World → Prop} {md : Region.Mode} {S : World → Prop}
theorem put_some (a : Act) (o : Oper) (d : Nat) (v : Value) (h : o.dst = some d) : a.put o.dst v = ⟨a.tmps.setIfInBounds d v, a.defers⟩ := by rw [h]; rfl
theorem take_yes (i d : Nat) {oi : Oper} {v : Value} {fuel : Nat} {listed : Array Bool} {a : Act} {w : World} (hi : ops[i]? = some oi) (hd : oi.dst = some d)
    (hs : Region.noSelect ops = true) (hf : Region.free md ops listed i = true) (hr : (Region.ready md ops listed).contains i = true)
    (hQ : ∀ c a w, Q (.panic c) (a.put oi.dst v) w → Q (.panic c) a w) (hS : S w) (hw : Region.wanted oi (yielded ops a.tmps) = true) (hy : ∀ w, S w → (execOp a.eval oi).run P w = .ok (.value v) w)
    (h : wpAnyH P md ops Q S fuel (listed.setIfInBounds i true) ⟨a.tmps.setIfInBounds d v, a.defers⟩ w) : wpAnyH P md ops Q S (fuel + 1) listed a w :=
  wpAnyH_take hi hs hf hr hQ (.inl ⟨hw, hy⟩) hS (by rw [put_some a oi d v hd]; exact h)
theorem take_no (i d : Nat) {oi : Oper} {fuel : Nat} {listed : Array Bool} {a : Act} {w : World} (hi : ops[i]? = some oi) (hd : oi.dst = some d)
    (hs : Region.noSelect ops = true) (hf : Region.free md ops listed i = true) (hr : (Region.ready md ops listed).contains i = true)
    (hQ : ∀ c a w, Q (.panic c) (a.put oi.dst undef) w → Q (.panic c) a w) (hS : S w) (hw : Region.wanted oi (yielded ops a.tmps) = false)
    (h : wpAnyH P md ops Q S fuel (listed.setIfInBounds i true) ⟨a.tmps.setIfInBounds d undef, a.defers⟩ w) : wpAnyH P md ops Q S (fuel + 1) listed a w :=
  wpAnyH_take hi hs hf hr hQ (.inr ⟨hw, rfl⟩) hS (by rw [put_some a oi d undef hd]; exact h)
theorem any_yes (i d : Nat) {oi : Oper} {v : Value} {fuel : Nat} {listed : Array Bool} {a : Act} {w : World} (hi : ops[i]? = some oi) (hd : oi.dst = some d)
    (hs : Region.noSelect ops = true) (hf : Region.free md ops listed i = true) (hr : (Region.ready md ops listed).contains i = true)
    (hQ : ∀ c a w, Q (.panic c) (a.put oi.dst v) w → Q (.panic c) a w) (hw : Region.wanted oi (yielded ops a.tmps) = true) (hy : ∀ w, (execOp a.eval oi).run P w = .ok (.value v) w)
    (h : wpAny P md ops Q fuel (listed.setIfInBounds i true) ⟨a.tmps.setIfInBounds d v, a.defers⟩ w) : wpAny P md ops Q (fuel + 1) listed a w :=
  wpAny_take hi hs hf hr hQ (.inl ⟨hw, hy⟩) (by rw [put_some a oi d v hd]; exact h)
theorem any_no (i d : Nat) {oi : Oper} {fuel : Nat} {listed : Array Bool} {a : Act} {w : World} (hi : ops[i]? = some oi) (hd : oi.dst = some d)
    (hs : Region.noSelect ops = true) (hf : Region.free md ops listed i = true) (hr : (Region.ready md ops listed).contains i = true)
    (hQ : ∀ c a w, Q (.panic c) (a.put oi.dst undef) w → Q (.panic c) a w) (hw : Region.wanted oi (yielded ops a.tmps) = false)
    (h : wpAny P md ops Q fuel (listed.setIfInBounds i true) ⟨a.tmps.setIfInBounds d undef, a.defers⟩ w) : wpAny P md ops Q (fuel + 1) listed a w :=
  wpAny_take hi hs hf hr hQ (.inr ⟨hw, rfl⟩) (by rw [put_some a oi d undef hd]; exact h)
end
end Go.Proofs.Ytlkgeifmppadmaa
