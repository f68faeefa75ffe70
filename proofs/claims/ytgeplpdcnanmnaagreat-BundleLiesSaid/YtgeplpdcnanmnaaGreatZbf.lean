/- The law's policy. Conditions: as each theorem states them. -/
import Derived.Test.YtgeplpdcnanmnaaGreatZav
import Derived.Test.YtgeplpdcnanmnaaGreatZaz
import Derived.Test.YtgeplpdcnanmnaaGreatZao
import Derived.Test.YtgeplpdcnanmnaaGreatZba
import Derived.Test.YtgeplpdcnanmnaaGreatZbc
namespace Go.Proofs.YtgeplpdcnanmnaaGreat
open Go.RowKit
set_option linter.unusedVariables false
set_option linter.unusedSimpArgs false

def witS (n : Nat) : List (List UInt8) := (List.range n).map (fun i : Nat => ownerS (seedS ((i : Int) + 1)))
theorem witS_succ (n : Nat) : witS (n + 1) = witS n ++ [ownerS (seedS ((n : Int) + 1))] := by simp [witS, List.range_succ]
theorem witS_length (n : Nat) : (witS n).length = n := by simp [witS]
def polS (n : Nat) (q : Int) : PolD := ⟨ownerS (seedS 0), witS n, q⟩
theorem pol_apart (a b : Nat) (S : Nat → Prop) (hS : ∀ g, S g → g < a) (h : a + 1 < b) (x n : Nat) (hx : S x ∨ (b ≤ x ∧ x < n)) (e : x = a) : False := by
 rcases hx with h1 | h1
 ·have := hS x h1; omega
 ·omega
def PoI (S : Nat → Prop) (w w2 wr : World) (C : Nat) (lv : Value) (q : Int) (n : Nat) : Prop := Chg w2 wr (fun k => k = C ∨ w2.heap.size ≤ k) ∧ ∃ rv, Blk wr C 30 [lv, rv, .int .i64 q] ∧ OwnT S wr w.heap.size w2.heap.size rv (witS n)
set_option maxRecDepth 100000 in
set_option maxHeartbeats 4000000 in
theorem lpolicy_any (S : Nat → Prop) (n : Nat) (q : Int) (v : Value) (hn : n ≤ 10) (w : World) (ho : OwnersS S w v (n + 1)) (hS : ∀ g, S g → g < w.heap.size) :
    Calls Tryz.prog 11 #[v, .int .i64 q] w fun e w' => ∃ v', e = .returned v' ∧ PolV w' v' (polS n q) ∧ Below w.heap.size w w' := by
  obtain ⟨i0, hi0, hz0, hz1, hz2⟩ := info_parts info_bytes
  obtain ⟨A, c, rfl⟩ := ho.form
  have HS := Lib.hid hS
  clear hS
  have HO := Lib.hid ho
  obtain ⟨g, o, b0, rfl, hg, -, hcap, hc0, ho0⟩ := ho.at' 0 (by omega)
  have HP0 := Lib.hid (fun wz (hz : OwnerS (fun x => S x ∧ x < w.heap.size) wz b0 (seedS ((0 : Nat) : Int))) => rpub_s _ b0 (seedS ((0 : Nat) : Int)) wz hz)
  have HO0 := Lib.hid (ho0.mono (T := fun x => S x ∧ x < w.heap.size) (fun x hx => ⟨hx, HS.out x hx⟩))
  have hb0 := (Below.refl w.heap.size w).alloc (Nat.le_refl _) (.cells #[.slice none 0 0, .slice none 0 0, .int .i64 0] 30)
  have hk0 := Blk.new w 30 [.slice none 0 0, .slice none 0 0, .int .i64 0]
  have HW := Lib.hid (And.intro hk0 hb0)
  have hp0 := (hb0.cell (p := ⟨g, o + 0, none⟩) hg).trans hc0
  have HL0 := Lib.hid (ownerS_length (seedS ((0 : Nat) : Int)))
  clear ho ho0 hb0 hk0 hc0
  generalize hK0 : ownerS (seedS ((0 : Nat) : Int)) = K0 at *
  have HE0 : Hid (ownerS (seedS 0) = K0) := Lib.hid hK0
  clear hK0
  rw [Nat.add_zero] at hp0
  go_enter Tryz.func11, Tryz.ntmps11
  go_wp2_with fail
  refine (HP0.out _ (HO0.out.chg (Chg.of_below (S := fun _ => False) HW.out.2) (fun _ _ h => h))).mono ?_
  rintro e w' ⟨v1, rfl, h1, rfl⟩
  obtain ⟨A1, c1, rfl⟩ := h1.1.form
  have H1 := Lib.hid (show BysF (fun x => S x ∧ x < w.heap.size) (w.alloc (.cells #[.slice none 0 0, .slice none 0 0, .int .i64 0] 30)) (.slice A1 K0.length c1) K0 from h1)
  clear h1 hp0
  go_wp2
  refine code_at (fun w2 => Blk w2 w.heap.size 30 [.slice none 0 0, .slice none 0 0, .int .i64 0] ∧ Blk w2 (w.heap.size + 1) 30 [.slice A1 K0.length c1, .slice none 0 0, .int .i64 q] ∧ Below w.heap.size w w2 ∧ BysF (fun x => S x ∧ x < w.heap.size) w2 (.slice A1 K0.length c1) K0) ?_ ?_
  · exact ⟨(blk2 w _ _ _ _ _ rfl).2.1, (blk2 w _ _ _ _ _ rfl).2.2, (blk2 w _ _ _ _ _ rfl).1, H1.out.below ((Below.refl _ _).alloc (Nat.le_refl _) _)⟩
  rintro w2 ⟨k0, k1, k2, kB⟩
  have hsz2 := k1.lt
  have H2 := Lib.hid (And.intro k0 (And.intro k1 (And.intro k2 (And.intro (HO.out.below k2) kB))))
  have hwits0 : witS 0 = [] := rfl
  have HI0 : Hid (PoI S w w2 w2 (w.heap.size + 1) (.slice A1 K0.length c1) q 0) := Lib.hid ⟨Chg.refl _ _, _, k1, by rw [hwits0]; exact OwnT.nil _ _ _ _⟩
  clear k0 k1 k2 kB hwits0
  go_wp2
  go_loopw [6] (fun v6 wr => ∃ j : Nat, v6 = .int .i64 ((j : Int) + 1) ∧ j ≤ n ∧ Hid (PoI S w w2 wr (w.heap.size + 1) (.slice A1 K0.length c1) q j)) (fun v _ => n + 1 - (intOf v).toNat)
  case atStart => exact ⟨0, rfl, Nat.zero_le _, HI0⟩
  case round =>
    obtain ⟨j, rfl, hj, HJ⟩ := hrel
    clear HI0
    by_cases hlt : j < n
    · have hnl : ((j : Int) + 1) < ((n + 1 : Nat) : Int) := by omega
      obtain ⟨g', o', b, e9, hg', -, -, hcb, hob⟩ := HO.out.at' (j + 1) (by omega)
      injection e9 with e9
      injection e9 with e9a e9b
      subst e9a e9b
      obtain ⟨hch, rv, hkC, hov⟩ := HJ.out
      have hbel : Below w.heap.size w wr := H2.out.2.2.1.trans (hch.below H2.out.2.2.1.size (fun k hk => by rcases hk with e | e <;> omega))
      have hp1 := (hbel.cell (p := ⟨g, o + (j + 1), none⟩) hg).trans hcb
      have HP := Lib.hid (fun (wz : World) (hz : OwnerS (fun x => S x ∧ x < w.heap.size) wz b (seedS ((j + 1 : Nat) : Int))) => rpub_s _ b (seedS ((j + 1 : Nat) : Int)) wz hz)
      have HOB := Lib.hid ((hob.mono (T := fun x => S x ∧ x < w.heap.size) (fun x hx => ⟨hx, HS.out x hx⟩)).chg (Chg.of_below (S := fun _ => False) hbel) (fun _ _ h => h))
      have HWT : Hid (witS (j + 1) = witS j ++ [ownerS (seedS ((j + 1 : Nat) : Int))]) := Lib.hid (witS_succ j)
      have HLN := Lib.hid (ownerS_length (seedS ((j + 1 : Nat) : Int)))
      have hal : (witS j).length ≤ 1000 := by rw [witS_length]; omega
      have HJL := Lib.hid (witS_length j)
      generalize ownerS (seedS ((j + 1 : Nat) : Int)) = KN at *
      obtain ⟨A8, c8, rfl⟩ := hov.rws.form
      have r1 := hkC.cell 1 _ rfl
      have hCr := hkC.lt
      have hzr := hch.size
      obtain ⟨us, hu1, hu2⟩ := hov
      have HK := Lib.hid (And.intro hch (And.intro hkC (And.intro hbel (And.intro hu1 hu2))))
      clear hch hkC hbel hu1 hu2 hcb hob HJ
      generalize witS j = Ls at *
      have hj0 : (0 : Int) ≤ (j : Int) + 1 := by omega
      have hj1 : (j : Int) + 1 < (n : Int) + 1 := by omega
      have hjt : ((j : Int) + 1).toNat = j + 1 := by omega
      go_wp2
      go_region_law (first
        | (go_simp; go_at_call 41; refine (HP.out wr.drew (HOB.out.chg (Chg.of_below (S := fun _ => False) (Below.refl _ _).drew) (fun _ _ h => h))).mono ?_
           rintro e w5 ⟨v5, rfl, h5, rfl⟩
           obtain ⟨A5, c5, rfl⟩ := h5.1.form
           have H5 := Lib.hid (show BysF (fun x => S x ∧ x < w.heap.size) wr (.slice A5 KN.length c5) KN from ⟨h5.1, h5.2⟩)
           clear h5)
        | (refine step_append_lie rfl (.tmp 20) (.tmp 26) 28 rfl w2.heap.size 24 i0 (.slice none 0 0) 1 24 Tryz.underlying28 hi0 hz0 hz1 hz2 rfl (by decide) _ Ls.length us rfl (by first | exact World.ownsRow.alloc HK.out.2.2.2.1 _ | exact HK.out.2.2.2.1) _ 1 [.slice A5 KN.length c5] rfl (by first | exact news1 _ 24 _ rfl | exact news1_drew _ 24 _ rfl) (by unfold maxLen; omega) (by omega) (by simp; omega) ?_
           intro v3 W3 hown3 hgrow3' hlie3
           obtain ⟨A3, c3, rfl⟩ := (Sho.own hown3).form
           have hgrow3 : (wr.alloc (.cells #[.slice A5 KN.length c5] 24)).grownBy W3 (Value.slice A8 Ls.length c8).ownBlock := ⟨hgrow3'.os, hgrow3'.tape, hgrow3'.output, hgrow3'.size, hgrow3'.block⟩
           have hgr : Chg wr W3 (fun k => w2.heap.size ≤ k) := ((Chg.refl wr _).alloc _).trans (Chg.of_grown hgrow3) (fun i _ h => (World.ownsRow.lt HK.out.2.2.2.1 i h.symm).1)
           have H3 : Hid (OwnT S W3 w.heap.size w2.heap.size (.slice A3 (Ls.length + 1) c3) (Ls ++ [KN]) ∧ Blk W3 (w.heap.size + 1) 30 [.slice A1 K0.length c1, .slice A8 Ls.length c8, .int .i64 q] ∧ Chg wr W3 (fun k => w2.heap.size ≤ k)) := Lib.hid ⟨OwnT.push (w := wr) (by omega) HK.out.2.2.2.1 HK.out.2.2.2.2 H5.out.1 (fun h0 x hx => H5.out.2 h0 x hx) hown3 hgrow3, HK.out.2.1.chg hgr (by omega), hgr⟩
           have t1 := H3.out.2.1.cell 1 _ rfl
           have f1 := H3.out.2.1.free 1
           clear hown3 hgrow3 hgrow3' hlie3 hgr))
      all_goals
        have hset : Chg W3 (W3.setCell ⟨w.heap.size + 1, 1, none⟩ (.slice A3 (Ls.length + 1) c3)) (fun k => k = w.heap.size + 1) := chg_cell (Chg.refl W3 _) 1 _
        have HN : Hid (PoI S w w2 (W3.setCell ⟨w.heap.size + 1, 1, none⟩ (.slice A3 (Ls.length + 1) c3)) (w.heap.size + 1) (.slice A1 K0.length c1) q (j + 1)) := Lib.hid ⟨(HK.out.1.trans H3.out.2.2 (fun i _ h => .inr h)).trans hset (fun i _ h => .inl h), _, H3.out.2.1.set 1 _ (by simp), by rw [HWT.out]; exact H3.out.1.chg2 hset (by omega)⟩
        clear hset t1 f1
        go_wp2
        go_roundw
        case rel => exact ⟨j + 1, by go_num, by omega, HN⟩
        case measure => simp [intOf]; omega
    · obtain rfl : j = n := by omega
      have hnl : ¬ ((j : Int) + 1) < ((j + 1 : Nat) : Int) := by omega
      have hnl2 : ¬ (j : Int) + 1 < (j : Int) + 1 := by omega
      obtain ⟨hch, rv, hkC, hov⟩ := HJ.out
      obtain ⟨A8, c8, rfl⟩ := hov.rws.form
      have r0 := hkC.cell 0 _ rfl
      have r1 := hkC.cell 1 _ rfl
      have r2 := hkC.cell 2 _ rfl
      have hkZ := H2.out.1.chg hch (by have := H2.out.1.lt; omega)
      have z0 := hkZ.cell 0 _ rfl
      have z1 := hkZ.cell 1 _ rfl
      have z2 := hkZ.cell 2 _ rfl
      have y0 := hkZ.free 0
      have y1 := hkZ.free 1
      have y2 := hkZ.free 2
      have hbel : Below w.heap.size w wr := H2.out.2.2.1.trans (hch.below H2.out.2.2.1.size (fun k hk => by rcases hk with e | e <;> omega))
      have hkB := H2.out.2.2.2.2.chg hch (fun x hx e => by have h1 : x < w.heap.size := hx.2; rcases e with e | e <;> omega)
      have HK := Lib.hid (And.intro hbel (And.intro hkZ (And.intro hov hkB)))
      have HW9 := Lib.hid (witS_length j)
      clear hch hkC hov hkZ hbel hkB HJ
      generalize hWE : witS j = WS at *
      have HWE := Lib.hid hWE
      clear hWE
      go_wp2
      have hfc : Chg wr (((wr.setCell ⟨w.heap.size, 0, none⟩ (.slice A1 K0.length c1)).setCell ⟨w.heap.size, 1, none⟩ (.slice A8 WS.length c8)).setCell ⟨w.heap.size, 2, none⟩ (.int .i64 q)) (fun k => k = w.heap.size) := chg_cell (chg_cell (chg_cell (Chg.refl wr _) 0 _) 1 _) 2 _
      have hfin : Blk (((wr.setCell ⟨w.heap.size, 0, none⟩ (.slice A1 K0.length c1)).setCell ⟨w.heap.size, 1, none⟩ (.slice A8 WS.length c8)).setCell ⟨w.heap.size, 2, none⟩ (.int .i64 q)) w.heap.size 30 [.slice A1 K0.length c1, .slice A8 WS.length c8, .int .i64 q] := ((HK.out.2.1.set 0 _ (by simp)).set 1 _ (by simp)).set 2 _ (by simp)
      have hpe : polS j q = ⟨K0, WS, q⟩ := by unfold polS; rw [HE0.out, HWE.out]
      refine bodyPost_ret (v := .agg [.slice A1 K0.length c1, .slice A8 WS.length c8, .int .i64 q].toArray) ?_ ?_ ⟨_, rfl, ?_, ?_⟩
      · exact results_cell_row Tryz.results11 _ _ w.heap.size 30 _ (0, 0) _ rfl hfin under_policy rfl size_policy
      · rfl
      · rw [hpe]
        refine ⟨_, _, rfl, ?_, ?_⟩
        · exact (HK.out.2.2.2.chg hfc (fun x hx e => by have h1 : x < w.heap.size := hx.2; have h2 : x = w.heap.size := e; omega)).1
        · exact (HK.out.2.2.1.foot.chg hfc (fun x hx e => pol_apart w.heap.size w2.heap.size S HS.out hsz2 x wr.heap.size hx e)).rws
      · exact HK.out.1.trans (hfc.below HK.out.1.size (fun k hk => by omega))
end Go.Proofs.YtgeplpdcnanmnaaGreat
