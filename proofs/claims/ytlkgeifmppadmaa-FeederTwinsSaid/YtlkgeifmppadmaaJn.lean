/- The law FeederTwins. Words for the rows: an argument that is a slice of ints, opened. Words for the rows of the feeder's laws: an argument that is a slice of asks, opened. The statement FeederTwins, out of its walk. Conditions: as each theorem states them. -/
import Derived.Test.YtlkgeifmppadmaaJm
import Derived.Test.YtlkgeifmppadmaaRows
import Derived.Test.YtlkgeifmppadmaaJf
import Derived.WalkKit
import Derived.ProofKit
import Derived.OpenShut
import Derived.ShutString
import Derived.ChangeOld
import Derived.Below
import Derived.SizedLaws
import Derived.Lib.SmallJoins
import Derived.Deep.Slices
import Derived.Deep.Fields
import Derived.ChangeSame
namespace Go.Proofs.Ytlkgeifmppadmaa
open Go.RowKit
set_option linter.unusedVariables false
set_option linter.unusedSimpArgs false

structure AskD where
  kind : Int
  who : Int
  size : Int
  now : Int
/-- The slice at A shows the asks l: where there is one, A is a plain address. -/
def ArgAsk (w : World) (A : Option Addr) (l : List AskD) : Prop := ∀ k (h : k < l.length), ∃ g o, A = some ⟨g, o, none⟩ ∧ g < w.heap.size ∧ w.cell? ⟨g, o + k * 5, none⟩ = some (.int .i64 l[k].kind) ∧ w.cell? ⟨g, o + k * 5 + 1, none⟩ = some (.int .i64 l[k].who) ∧ w.cell? ⟨g, o + k * 5 + 2, none⟩ = some (.int .i64 l[k].size) ∧ w.cell? ⟨g, o + k * 5 + 3, none⟩ = some (.int .i64 l[k].now)
theorem OnZ.drew {Z : Nat → Prop} {w w' : World} {f : Nat} {d : FdD} (h : OnZ Z w.drew w' f d) : OnZ Z w w' f d := ⟨h.1, ⟨h.2.os, h.2.tape, h.2.output, h.2.size, h.2.block⟩⟩
theorem FdJ.steps {d : FdD} {p : PolD} {retry : Int} {n B : Nat} (h : FdJ d p retry n B) (now : Int) (c : Nat) (hq : dueN d.m now ≤ 8 * c) : FdJ (stepD d now) p retry n (B + c) := by
  have hw : (whoL d.m now).length ≤ 8 * c := by simp only [whoL, List.length_map]; exact hq
  have hd : (d.m.drop (dueN d.m now)).length ≤ d.m.length := by rw [List.length_drop]; omega
  refine ⟨by rw [stepD, stN_p]; exact h.pol, by rw [stepD, stN_retry]; exact h.re, by rw [stepD, stN_l]; exact h.len, ?_, ?_, ?_, ?_, ?_⟩
  · exact stN_wh now n _ _ (fun x hx => h.wh x (List.mem_of_mem_drop hx)) (who_lt h.wh now)
  · have := stN_m now (whoL d.m now) { d with m := d.m.drop (dueN d.m now) }
    have h2 := h.ml
    show (stN now _ _).m.length ≤ _
    have h3 : ({ d with m := d.m.drop (dueN d.m now) } : FdD).m.length ≤ d.m.length := hd
    omega
  · show (stN now _ _).ord ≤ _
    rw [stN_ord]
    have h2 := h.ord
    show d.ord + _ ≤ _
    omega
  · have := stN_tr now (whoL d.m now) { d with m := d.m.drop (dueN d.m now) } (8 * (B : Int)) h.tr
    intro k
    have h2 := this k
    exact ⟨h2.1, by have := h2.2; show (wAt (stN now _ _).l k).tries ≤ _; omega⟩
  · rw [(step_has d now).2]
    exact h.sm
theorem step_ml (d : FdD) (now : Int) : (stepD d now).m.length ≤ d.m.length := by
  have h := stN_m now (whoL d.m now) { d with m := d.m.drop (dueN d.m now) }
  have h2 : (whoL d.m now).length = dueN d.m now := by simp [whoL, dueN]
  have h3 := dueN_le d.m now
  have h4 : ({ d with m := d.m.drop (dueN d.m now) } : FdD).m.length = d.m.length - dueN d.m now := by show (d.m.drop _).length = _; rw [List.length_drop]
  show (stN now _ _).m.length ≤ _
  omega
theorem repN_ml (d : FdD) (wit size now : Int) : (repN d wit size now).m.length ≤ d.m.length + 1 := by
  unfold repN
  split
  · show (insE _ (keepW _ d.m)).length ≤ _
    rw [insE_length]
    have := keepW_le (wit.toNat : Int) d.m
    omega
  · omega
theorem offN_ml {d : FdD} {p : PolD} {retry : Int} {n B : Nat} (h : FdJ d p retry n B) (s : SgD) (now : Int) : (offN d s now).m.length ≤ d.m.length + n := by
  unfold offN
  split
  · show (offM d.m d.ord now d.l.length).length ≤ _
    rw [h.len]
    exact offM_length _ _ _ _
  · omega
/-- What both feeders of the law hold after i rounds. -/
structure TwJ (d : FdD) (P : PolD) (n i : Nat) : Prop where
  j : FdJ d P 4 n (20 * i)
  ml : d.m.length ≤ 4 * i
theorem TwJ.off {d : FdD} {P : PolD} {n i : Nat} (h : TwJ d P n i) (hn : n ≤ 4) (s : SgD) (hs : SmallSig s.sig) (hr : s.ck.root.length ≤ 100000000) (now : Int) : TwJ (offN d s now) P n (i + 1) :=
  ⟨(h.j.offN hn s hs hr now).up (by omega), by have := offN_ml h.j s now; have := h.ml; omega⟩
theorem TwJ.rep {d : FdD} {P : PolD} {n i : Nat} (h : TwJ d P n i) (wit size now : Int) : TwJ (repN d wit size now) P n (i + 1) :=
  ⟨(h.j.repN wit size now).up (by omega), by have := repN_ml d wit size now; have := h.ml; omega⟩
theorem TwJ.stp {d : FdD} {P : PolD} {n i : Nat} (h : TwJ d P n i) (hi : i ≤ 25) (now : Int) : TwJ (stepD d now) P n (i + 1) :=
  ⟨(h.j.steps now 13 (by have := dueN_le d.m now; have := h.ml; omega)).up (by omega), by have := step_ml d now; have := h.ml; omega⟩
set_option maxRecDepth 100000 in
set_option maxHeartbeats 8000000 in
theorem twins_any (n : Int) (A : Option Addr) (c : Nat) (l : List AskD) (A2 : Option Addr) (c2 : Nat) (xs : List Int) (w : World) (hx : ArgAsk w A l) (hx2 : ArgInts w A2 xs) :
    Calls Try.prog 4 #[.int .i64 n, .slice A l.length c, .slice A2 xs.length c2] w fun e w' => e = .returned (.bool true) ∧ Below w.heap.size w w' := by
  have HX := Lib.hid (And.intro hx hx2)
  clear hx hx2
  have HWI := Lib.hid (fun wz : World => within_any n 1 3 (by decide) (by decide) (by decide) wz)
  obtain ⟨kn, hkn, hk1, hk3⟩ : ∃ kn : Nat, withinZ n 1 3 = kn ∧ 1 ≤ kn ∧ kn ≤ 3 := by
    have := withinZ_ge n 1 3 (by decide)
    obtain ⟨k, hk⟩ := Int.eq_ofNat_of_zero_le (show 0 ≤ withinZ n 1 3 by omega)
    exact ⟨k, hk, by omega, by omega⟩
  rw [hkn] at HWI
  clear hkn
  have HO := Lib.hid (fun wz : World => owners_any kn (by omega) wz)
  have HPO := Lib.hid (fun (wz : World) (S : Nat → Prop) (v : Value) (z1 : OwnersS S wz v (kn + 1)) (z2 : ∀ g, S g → g < wz.heap.size) => lpolicy_any S kn 1 v (by omega) wz z1 z2)
  have HNW : Hid (∀ (wz : World) (v : Value), PolV wz v (polS kn 1) → Calls Try.prog 8 #[v, .int .i64 4] wz fun e w' => ∃ f Z, e = .returned (.tuple #[.pointer (some ⟨f, 0, none⟩), .int .i64 0]) ∧ FdAt Z w' f (fdNew (polS kn 1) 4) ∧ (∀ g, Z g → wz.heap.size ≤ g ∧ g < w'.heap.size) ∧ Below wz.heap.size wz w') := Lib.hid (fun wz v z => fnew_yes v (polS kn 1) 4 (pol_small kn 1 (by omega) (by decide) (by decide)) (pol_right kn 1 hk1 hk3 (by decide) (by omega)) (by decide) (by decide) wz z)
  have HSP := Lib.hid (pol_small kn 1 (by omega) (by decide) (by decide))
  have HSN := Lib.hid (fun (z : Int) (h0 : 0 ≤ z) (h1 : z ≤ 256) (wz : World) (S : Nat → Prop) (b : Nat) (z1 : OwnerS S wz b (seedS ((0 : Nat) : Int))) (z2 : ∀ g, S g → g < wz.heap.size) => signed_any S b (seedS ((0 : Nat) : Int)) z h0 h1 (by rw [seedS_length]; decide) wz z1 z2)
  have HCK : Hid (∀ z : Int, 0 ≤ z → SmallSig (signedS (seedS ((0 : Nat) : Int)) z).sig ∧ (signedS (seedS ((0 : Nat) : Int)) z).ck.root.length ≤ 100000000 ∧ (signedS (seedS ((0 : Nat) : Int)) z).ck.num = z) := Lib.hid (fun z h0 => ⟨(signed_small _ z h0).1, (signed_small _ z h0).2, rfl⟩)
  have HPP : Hid ((polS kn 1).wits.length = kn ∧ (polS kn 1).log.length = 32) := Lib.hid ⟨witS_length kn, by show (ownerS (seedS 0)).length = 32; exact ownerS_length _⟩
  have hj0 := fdj_new (polS kn 1) 4
  rw [HPP.out.1] at hj0
  have HJ0 : Hid (TwJ (fdNew (polS kn 1) 4) (polS kn 1) kn 0) := Lib.hid ⟨hj0, Nat.le_refl _⟩
  clear hj0
  generalize fdNew (polS kn 1) 4 = d0 at *
  generalize polS kn 1 = P at *
  generalize hSG : signedS (seedS ((0 : Nat) : Int)) = sgn at *
  clear hSG
  generalize hsd : seedS ((0 : Nat) : Int) = sd at *
  have HSD := Lib.hid hsd
  clear hsd
  go_enter Try.func4, Try.ntmps4
  go_wp2_with fail
  refine (HWI.out _).mono ?_
  rintro e w' ⟨rfl, rfl⟩
  go_wp2_with fail
  refine (HO.out _).mono ?_
  rintro e w1 ⟨v1, rfl, h1, h2⟩
  obtain ⟨A1, c1, rfl⟩ := h1.form
  have H1 := Lib.hid (And.intro h1 h2)
  clear h1 h2
  go_wp2_with fail
  refine (HPO.out _ _ _ H1.out.1 (fun g hg => hg.2)).mono ?_
  rintro e w2 ⟨v2, rfl, h1, h2⟩
  have H2 := Lib.hid (And.intro h1 (And.intro (H1.out.1.below h2) (And.intro (H1.out.2.trans (h2.mono H1.out.2.size)) h2.size)))
  clear h1 h2
  go_wp2_with fail
  refine (HNW.out _ _ H2.out.1).mono ?_
  rintro e w3 ⟨fa, Za, rfl, h1, h2, h3⟩
  have H3 := Lib.hid (And.intro h1 (And.intro h2 (And.intro (H2.out.2.1.below h3) (And.intro (H2.out.2.2.1.trans (h3.mono H2.out.2.2.1.size)) h3.size))))
  clear h1 h2 h3
  go_wp2_with fail
  refine (HPO.out _ _ _ H3.out.2.2.1 (fun g hg => by have h1 : g < w1.heap.size := hg.2; have := H2.out.2.2.2; have := H3.out.2.2.2.2; omega)).mono ?_
  rintro e w4 ⟨v4, rfl, h1, h2⟩
  have H4 := Lib.hid (And.intro h1 (And.intro (H3.out.2.2.1.below h2) (And.intro (H3.out.2.2.2.1.trans (h2.mono H3.out.2.2.2.1.size)) (And.intro (H3.out.1.below h2) h2.size))))
  clear h1 h2
  go_wp2_with fail
  refine (HNW.out _ _ H4.out.1).mono ?_
  rintro e w5 ⟨fb, Zb, rfl, h1, h2, h3⟩
  have H5 : Hid (TwS Za Zb (fun g => w.heap.size ≤ g ∧ g < w1.heap.size) w2.heap.size w w5 (.slice A1 (kn + 1) c1) (kn + 1) fa fb d0 d0) := Lib.hid ⟨H4.out.2.1.below h3, fun g hg => Nat.lt_of_lt_of_le hg.2 H2.out.2.2.2, by have := H3.out.2.2.2.2; have := H4.out.2.2.2.2; have := h3.size; omega, H2.out.2.2.1.size, H4.out.2.2.1.trans (h3.mono H4.out.2.2.1.size), H4.out.2.2.2.1.below h3, h1, fun g hg => by have := H3.out.2.1 g hg; have := H4.out.2.2.2.2; have := h3.size; omega, fun g hg => by have := h2 g hg; have := H3.out.2.2.2.2; have := H4.out.2.2.2.2; omega, fun g hg e => by have := H3.out.2.1 g hg; have := h2 g e; have := H4.out.2.2.2.2; omega⟩
  clear h1 h2 h3
  obtain ⟨g, o, b0, rfl, -, -, hcap, -, -⟩ := H5.out.own.at' 0 (by omega)
  generalize w2.heap.size = B at *
  clear H1 H2 H3 H4 HPO HNW HO
  generalize (fun g => w.heap.size ≤ g ∧ g < w1.heap.size) = S at *
  go_wp2_with fail
  go_loopw [13, 14] (fun vn vi wr => ∃ (T : Int) (i : Nat) (d : FdD), vn = .int .i64 T ∧ vi = .int .i64 i ∧ i ≤ l.length ∧ i ≤ 25 ∧ 0 ≤ T ∧ T ≤ 20 * (i : Int) ∧ Hid (TwJ d P kn i ∧ ∃ Za Zb, TwS Za Zb S B w wr (.slice (some ⟨g, o, none⟩) (kn + 1) c1) (kn + 1) fa fb d d)) (fun _ v _ => 25 - (intOf v).toNat)
  case atStart => exact ⟨0, 0, d0, rfl, rfl, Nat.zero_le _, Nat.zero_le _, by decide, by decide, Lib.hid ⟨HJ0.out, _, _, H5.out⟩⟩
  case round =>
    clear H5 HJ0
    obtain ⟨T, i, d, rfl, rfl, hi, hi25, hT0, hT1, HI⟩ := hrel
    by_cases hlt : i < l.length ∧ i < 25
    · obtain ⟨hlt, hlt25⟩ := hlt
      have HJ := Lib.hid HI.out.1
      obtain ⟨Za, Zb, hI⟩ := HI.out.2
      have HI2 := Lib.hid hI
      clear hI HI
      obtain ⟨gx, ox, rfl, hg, x0, x1, x2, x3⟩ := HX.out.1 i hlt
      have p3 := (HI2.out.below.cell (p := ⟨gx, ox + i * 5 + 3, none⟩) hg).trans x3
      have HXC := Lib.hid (And.intro x0 (And.intro x1 x2))
      clear x0 x1 x2 x3
      generalize l[i].now = X3 at *
      generalize l[i].size = X2 at *
      generalize l[i].who = X1 at *
      generalize l[i].kind = KI at *
      have hq := withinZ_ge X3 0 20 (by decide)
      have hz := withinZ_ge X2 0 15 (by decide)
      go_wp2_with fail
      refine (within_any X3 0 20 (by decide) (by decide) (by decide) _).mono ?_
      rintro e w' ⟨rfl, rfl⟩
      generalize withinZ X3 0 20 = D at *
      obtain ⟨hD0, hD1⟩ := hq
      clear p3
      have HRP := Lib.hid (fun (f : Nat) (wit size now : Int) (wz : World) (Zz : Nat → Prop) (z0 : ∀ g, Zz g → g < wz.heap.size) (z1 : FdAt Zz wz f d) => reply_z Zz f d P 4 kn _ _ zCg wit size now HJ.out.j (by omega) (by omega) HSP.out zCg_small zCg_wrong wz z0 z1 (zCg_v wz))
      have HFAR := Lib.hid (fun (wit size now : Int) (z2 : wit < 0 ∨ (kn : Int) ≤ wit) => rep_far d wit size now (by rw [HJ.out.j.len]; exact z2))
      by_cases hxs : i < xs.length
      · obtain ⟨gn, on, rfl, hgn, hcn⟩ := HX.out.2 i hxs
        have pn := (HI2.out.below.cell (p := ⟨gn, on + i, none⟩) hgn).trans hcn
        have HCN := Lib.hid hcn
        clear hcn
        generalize xs[i] = NZ at *
        have hQ := withinZ_ge NZ 0 9 (by decide)
        generalize hQQ : withinZ NZ 0 9 = QQ at *
        have HQQ := Lib.hid hQQ
        clear hQQ
        obtain ⟨hQ0, hQ1⟩ := hQ
        have ew : IntKind.i64.wrap ((kn : Int) + QQ) = (kn : Int) + QQ := by simp [IntKind.wrap, IntKind.bits, IntKind.signed]; omega
        go_wp2
        refine wp_region_held_drew (S := fun w' => w'.cell? ⟨gn, on + i, none⟩ = some (.int .i64 NZ)) (by kernel_rfl) ?_ (fun hHeld => ?_)
        · exact pn
        refine take_yes 0 66 rfl rfl (by kernel_rfl) (by kernel_rfl) (by kernel_rfl) (fun _ _ _ h => h) (by assumption) (by rfl) (v := ?_) ?_ ?_
        rotate_left 1
        · (intro w hSw; (try dsimp only at hSw); go_simp; try with_reducible rfl)
        simp only [List.setIfInBounds_toArray, List.set_cons_zero, List.set_cons_succ]
        refine take_yes 1 67 rfl rfl (by kernel_rfl) (by kernel_rfl) (by kernel_rfl) (fun _ _ _ h => h) (by assumption) (by rfl) (v := ?_) ?_ ?_
        rotate_left 1
        · (intro w hSw; (try dsimp only at hSw); go_simp; try with_reducible rfl)
        simp only [List.setIfInBounds_toArray, List.set_cons_zero, List.set_cons_succ]
        refine take_yes 2 68 rfl rfl (by kernel_rfl) (by kernel_rfl) (by kernel_rfl) (fun _ _ _ h => h) (by assumption) (by rfl) (v := ?_) ?_ ?_
        rotate_left 1
        · (intro w hSw; (try dsimp only at hSw); go_simp; try with_reducible rfl)
        simp only [List.setIfInBounds_toArray, List.set_cons_zero, List.set_cons_succ]
        refine take_yes 3 69 rfl rfl (by kernel_rfl) (by kernel_rfl) (by kernel_rfl) (fun _ _ _ h => h) (by assumption) (by rfl) (v := ?_) ?_ ?_
        rotate_left 1
        · (intro w hSw; (try dsimp only at hSw); go_simp; try with_reducible rfl)
        simp only [List.setIfInBounds_toArray, List.set_cons_zero, List.set_cons_succ]
        refine take_yes 4 70 rfl rfl (by kernel_rfl) (by kernel_rfl) (by kernel_rfl) (fun _ _ _ h => h) (by assumption) (by rfl) (v := ?_) ?_ ?_
        rotate_left 1
        · (intro w hSw; (try dsimp only at hSw); go_simp; try with_reducible rfl)
        simp only [List.setIfInBounds_toArray, List.set_cons_zero, List.set_cons_succ]
        refine take_yes 5 71 rfl rfl (by kernel_rfl) (by kernel_rfl) (by kernel_rfl) (fun _ _ _ h => h) (by assumption) (by rfl) (v := ?_) ?_ ?_
        rotate_left 1
        · (intro w hSw; (try dsimp only at hSw); go_simp; try with_reducible rfl)
        simp only [List.setIfInBounds_toArray, List.set_cons_zero, List.set_cons_succ]
        refine take_yes 6 72 rfl rfl (by kernel_rfl) (by kernel_rfl) (by kernel_rfl) (fun _ _ _ h => h) (by assumption) (by rfl) (v := ?_) ?_ ?_
        rotate_left 1
        · (intro w hSw; (try dsimp only at hSw); go_simp; try with_reducible rfl)
        simp only [List.setIfInBounds_toArray, List.set_cons_zero, List.set_cons_succ]
        refine take_yes 7 73 rfl rfl (by kernel_rfl) (by kernel_rfl) (by kernel_rfl) (fun _ _ _ h => h) (by assumption) (by rfl) (v := ?_) ?_ ?_
        rotate_left 1
        · (intro w hSw; (try dsimp only at hSw); go_simp; try with_reducible rfl)
        simp only [List.setIfInBounds_toArray, List.set_cons_zero, List.set_cons_succ]
        refine take_yes 8 74 rfl rfl (by kernel_rfl) (by kernel_rfl) (by kernel_rfl) (fun _ _ _ h => h) (by assumption) (by rfl) (v := ?_) ?_ ?_
        rotate_left 1
        · (intro w hSw; (try dsimp only at hSw); go_simp; try with_reducible rfl)
        simp only [List.setIfInBounds_toArray, List.set_cons_zero, List.set_cons_succ]
        refine take_yes 9 75 rfl rfl (by kernel_rfl) (by kernel_rfl) (by kernel_rfl) (fun _ _ _ h => h) (by assumption) (by rfl) (v := ?_) ?_ ?_
        rotate_left 1
        · (intro w hSw; (try dsimp only at hSw); go_simp; try with_reducible rfl)
        simp only [List.setIfInBounds_toArray, List.set_cons_zero, List.set_cons_succ]
        refine take_yes 10 76 rfl rfl (by kernel_rfl) (by kernel_rfl) (by kernel_rfl) (fun _ _ _ h => h) (by assumption) (by rfl) (v := ?_) ?_ ?_
        rotate_left 1
        · (intro w hSw; (try dsimp only at hSw); go_simp; try with_reducible rfl)
        simp only [List.setIfInBounds_toArray, List.set_cons_zero, List.set_cons_succ]
        refine take_yes 13 79 rfl rfl (by kernel_rfl) (by kernel_rfl) (by kernel_rfl) (fun _ _ _ h => h) (by assumption) (by rfl) (v := ?_) ?_ ?_
        rotate_left 1
        · (intro w hSw; (try dsimp only at hSw); go_simp; try with_reducible rfl)
        simp only [List.setIfInBounds_toArray, List.set_cons_zero, List.set_cons_succ]
        refine take_yes 14 80 rfl rfl (by kernel_rfl) (by kernel_rfl) (by kernel_rfl) (fun _ _ _ h => h) (by assumption) (by rfl) (v := ?_) ?_ ?_
        rotate_left 1
        · (intro w hSw; (try dsimp only at hSw); go_simp; try with_reducible rfl)
        simp only [List.setIfInBounds_toArray, List.set_cons_zero, List.set_cons_succ]
        refine take_yes 15 81 rfl rfl (by kernel_rfl) (by kernel_rfl) (by kernel_rfl) (fun _ _ _ h => h) (by assumption) (by rfl) (v := ?_) ?_ ?_
        rotate_left 1
        · (intro w hSw; (try dsimp only at hSw); go_simp; try with_reducible rfl)
        simp only [List.setIfInBounds_toArray, List.set_cons_zero, List.set_cons_succ]
        refine take_yes 16 82 rfl rfl (by kernel_rfl) (by kernel_rfl) (by kernel_rfl) (fun _ _ _ h => h) (by assumption) (by rfl) (v := ?_) ?_ ?_
        rotate_left 1
        · (intro w hSw; (try dsimp only at hSw); go_simp; try with_reducible rfl)
        simp only [List.setIfInBounds_toArray, List.set_cons_zero, List.set_cons_succ]
        refine take_yes 17 83 rfl rfl (by kernel_rfl) (by kernel_rfl) (by kernel_rfl) (fun _ _ _ h => h) (by assumption) (by rfl) (v := ?_) ?_ ?_
        rotate_left 1
        · (intro w hSw; (try dsimp only at hSw); go_simp; try with_reducible rfl)
        simp only [List.setIfInBounds_toArray, List.set_cons_zero, List.set_cons_succ]
        refine take_yes 18 84 rfl rfl (by kernel_rfl) (by kernel_rfl) (by kernel_rfl) (fun _ _ _ h => h) (by assumption) (by rfl) (v := ?_) ?_ ?_
        rotate_left 1
        · (intro w hSw; (try dsimp only at hSw); go_simp; try with_reducible rfl)
        simp only [List.setIfInBounds_toArray, List.set_cons_zero, List.set_cons_succ]
        refine wpAnyH_ready (rs := [11]) (by kernel_rfl) (by simp) ?_
        refine AllReadyH.cons rfl (fun K hK => ?_) AllReadyH.nil
        -- 11:  dst := some 77, op := Op.call  callee := Callee.value (Operand.func 6), args := #[Operand.tmp 76, Operand.const (Value.int IntK
        go_simp
        go_at_call 6
        refine (within_any NZ 0 9 (by decide) (by decide) (by decide) _).mono ?_
        rw [HQQ.out]
        rintro e w' ⟨rfl, rfl⟩
        go_wp2_with fail
        refine hK.out _ _ pn (fun hHeld11 => ?_)
        clear hK K
        try simp only [Act.put, List.setIfInBounds_toArray, List.set_cons_zero, List.set_cons_succ]
        refine take_yes 12 78 rfl rfl (by kernel_rfl) (by kernel_rfl) (by kernel_rfl) (fun _ _ _ h => h) (by assumption) (by rfl) (v := ?_) ?_ ?_
        rotate_left 1
        · (intro w hSw; (try dsimp only at hSw); go_simp; try with_reducible rfl)
        simp only [List.setIfInBounds_toArray, List.set_cons_zero, List.set_cons_succ]
        refine wpAnyH_ready (rs := [19]) (by kernel_rfl) (by simp) ?_
        refine AllReadyH.cons rfl (fun K hK => ?_) AllReadyH.nil
        -- 19:  dst := some 85, op := Op.call  callee := Callee.value (Operand.func 18), args := #[Operand.tmp 71, Operand.tmp 78, Operand.tmp 
        go_simp
        go_at_call 18
        refine (HRP.out fb ((kn : Int) + QQ) NZ (T + D) wr.drew Zb (fun g hg => (HI2.out.zb g hg).2) (HI2.out.quiet (Below.refl wr.heap.size wr).drew).b).mono ?_
        rw [(HFAR.out ((kn : Int) + QQ) NZ (T + D) (.inr (by omega))).1, (HFAR.out ((kn : Int) + QQ) NZ (T + D) (.inr (by omega))).2]
        rintro e w6 ⟨rfl, h⟩
        have H6 := Lib.hid (HI2.out.onB h.drew)
        clear h
        have pn6 := (H6.out.below.cell (p := ⟨gn, on + i, none⟩) hgn).trans HCN.out
        go_wp2_with fail
        refine hK.out _ _ pn6 (fun hHeld19 => ?_)
        clear hK K
        try simp only [Act.put, List.setIfInBounds_toArray, List.set_cons_zero, List.set_cons_succ]
        refine take_yes 20 86 rfl rfl (by kernel_rfl) (by kernel_rfl) (by kernel_rfl) (fun _ _ _ h => h) (by assumption) (by rfl) (v := ?_) ?_ ?_
        rotate_left 1
        · (intro w hSw; (try dsimp only at hSw); go_simp; try with_reducible rfl)
        simp only [List.setIfInBounds_toArray, List.set_cons_zero, List.set_cons_succ]
        refine wpAnyH_done (by kernel_rfl) ?_ _
        clear hHeld hHeld11 hHeld19 pn pn6
        go_wp2_with fail
        refine (HRP.out fb (-1) 1 (T + D) w6 _ (fun g hg => (H6.out.zb g hg).2) H6.out.b).mono ?_
        rw [(HFAR.out (-1) 1 (T + D) (.inl (by decide))).1, (HFAR.out (-1) 1 (T + D) (.inl (by decide))).2]
        rintro e w7 ⟨rfl, h⟩
        have H7 := Lib.hid (H6.out.onB h)
        have p2 := (H7.out.below.cell (p := ⟨gx, ox + i * 5 + 2, none⟩) hg).trans HXC.out.2.2
        clear h
        go_wp2_with fail
        refine (within_any X2 0 15 (by decide) (by decide) (by decide) _).mono ?_
        rintro e w' ⟨rfl, rfl⟩
        generalize withinZ X2 0 15 = z at *
        obtain ⟨hz0, hz1⟩ := hz
        have p0 := (H7.out.below.cell (p := ⟨gx, ox + i * 5, none⟩) hg).trans HXC.out.1
        clear p2
        by_cases hK1 : KI = 1
        · subst hK1
          obtain ⟨b1, hgo, hc0, ho0⟩ := H7.out.own.get 0 (by omega)
          rw [Nat.add_zero] at hc0
          rw [HSD.out] at ho0
          obtain ⟨hv2, hv3, hv4⟩ := HCK.out z hz0
          have HSZ := Lib.hid (HSN.out z hz0 (by omega))
          generalize sgn z = s at *
          go_wp2_with fail
          refine (HSZ.out _ _ _ ho0 H7.out.in).mono ?_
          rintro e w8 ⟨v8, rfl, h1, h2⟩
          obtain ⟨⟨num, root⟩, ⟨ix, Ps, Qs⟩⟩ := s
          obtain rfl : num = z := hv4
          obtain ⟨r4, p4, q4, rfl, k1, k2, k3⟩ := h1
          obtain ⟨R, cr, rfl⟩ := k1.1.form
          obtain ⟨P4, cp, rfl⟩ := k2.rws.form
          obtain ⟨Q4, cq, rfl⟩ := k3.rws.form
          have HT8 := Lib.hid (And.intro k1 (And.intro k2 k3))
          have H8 := Lib.hid (H7.out.quiet h2)
          have hz78 := h2.size
          have HOF := Lib.hid (fun (f : Nat) (wz : World) (Zz : Nat → Prop) (v : Value) (z0 : ∀ g, Zz g → g < wz.heap.size) (z1 : FdAt Zz wz f d) (z2 : SgV wz v ⟨⟨num, root⟩, ⟨ix, Ps, Qs⟩⟩) => offer_z Zz f d P 4 kn _ v ⟨⟨num, root⟩, ⟨ix, Ps, Qs⟩⟩ (T + D) HJ.out.j (by omega) (by omega) (by rw [HPP.out.2]; decide) hv3 hv2 wz z0 z1 z2)
          have HJN := Lib.hid (HJ.out.off (by omega) ⟨⟨num, root⟩, ⟨ix, Ps, Qs⟩⟩ hv2 hv3 (T + D))
          generalize offN d ⟨⟨num, root⟩, ⟨ix, Ps, Qs⟩⟩ (T + D) = d1 at *
          generalize offB d ⟨⟨num, root⟩, ⟨ix, Ps, Qs⟩⟩ = ob at *
          clear k1 k2 k3 h2 hv2 hv3 hc0 ho0 hgo HSZ p0
          go_wp2
          refine code_at (fun w9 => Blk w9 w8.heap.size 40 [.int .i64 num, .slice R root.length cr, .int .i64 ix, .slice P4 Ps.length cp, .slice Q4 Qs.length cq] ∧ Below w8.heap.size w8 w9) ?_ ?_
          · exact ⟨Blk.new w8 40 [.int .i64 num, .slice R root.length cr, .int .i64 ix, .slice P4 Ps.length cp, .slice Q4 Qs.length cq], (Below.refl _ _).alloc (Nat.le_refl _) _⟩
          rintro w9 ⟨k0, kb⟩
          have c0 := k0.cell 0 _ rfl
          have c1 := k0.cell 1 _ rfl
          have c2 := k0.cell 2 _ rfl
          have c3 := k0.cell 3 _ rfl
          have c4 := k0.cell 4 _ rfl
          have hb16 := k0.lt
          have H9 := Lib.hid (And.intro (H8.out.quiet kb) (And.intro (HT8.out.1.below kb) (And.intro (HT8.out.2.1.below kb) (And.intro (HT8.out.2.2.below kb) k0))))
          clear k0 kb
          refine wp_region_held_drew (S := fun w' => w'.cell? ⟨w8.heap.size, 0, none⟩ = some (.int .i64 num) ∧ w'.cell? ⟨w8.heap.size, 1, none⟩ = some (.slice R root.length cr) ∧ w'.cell? ⟨w8.heap.size, 2, none⟩ = some (.int .i64 ix) ∧ w'.cell? ⟨w8.heap.size, 3, none⟩ = some (.slice P4 Ps.length cp) ∧ w'.cell? ⟨w8.heap.size, 4, none⟩ = some (.slice Q4 Qs.length cq)) (by kernel_rfl) ?_ (fun hHeld => ?_)
          · exact ⟨c0, c1, c2, c3, c4⟩
          refine take_yes 0 117 rfl rfl (by kernel_rfl) (by kernel_rfl) (by kernel_rfl) (fun _ _ _ h => h) (by assumption) (by rfl) (v := ?_) ?_ ?_
          rotate_left 1
          · (intro w hSw; (try dsimp only at hSw); go_simp; try with_reducible rfl)
          simp only [List.setIfInBounds_toArray, List.set_cons_zero, List.set_cons_succ]
          refine take_yes 1 118 rfl rfl (by kernel_rfl) (by kernel_rfl) (by kernel_rfl) (fun _ _ _ h => h) (by assumption) (by rfl) (v := ?_) ?_ ?_
          rotate_left 1
          · (intro w hSw; (try dsimp only at hSw); go_simp; try with_reducible rfl)
          simp only [List.setIfInBounds_toArray, List.set_cons_zero, List.set_cons_succ]
          refine take_yes 2 119 rfl rfl (by kernel_rfl) (by kernel_rfl) (by kernel_rfl) (fun _ _ _ h => h) (by assumption) (by rfl) (v := ?_) ?_ ?_
          rotate_left 1
          · (intro w hSw; (try dsimp only at hSw); go_simp; try with_reducible rfl)
          simp only [List.setIfInBounds_toArray, List.set_cons_zero, List.set_cons_succ]
          refine take_yes 4 121 rfl rfl (by kernel_rfl) (by kernel_rfl) (by kernel_rfl) (fun _ _ _ h => h) (by assumption) (by rfl) (v := ?_) ?_ ?_
          rotate_left 1
          · (intro w hSw; (try dsimp only at hSw); go_simp; try with_reducible rfl)
          simp only [List.setIfInBounds_toArray, List.set_cons_zero, List.set_cons_succ]
          refine take_yes 5 122 rfl rfl (by kernel_rfl) (by kernel_rfl) (by kernel_rfl) (fun _ _ _ h => h) (by assumption) (by rfl) (v := ?_) ?_ ?_
          rotate_left 1
          · (intro w hSw; (try dsimp only at hSw); go_simp; try with_reducible rfl)
          simp only [List.setIfInBounds_toArray, List.set_cons_zero, List.set_cons_succ]
          refine take_yes 6 123 rfl rfl (by kernel_rfl) (by kernel_rfl) (by kernel_rfl) (fun _ _ _ h => h) (by assumption) (by rfl) (v := ?_) ?_ ?_
          rotate_left 1
          · (intro w hSw; (try dsimp only at hSw); go_simp; try with_reducible rfl)
          simp only [List.setIfInBounds_toArray, List.set_cons_zero, List.set_cons_succ]
          refine wpAnyH_ready (rs := [3]) (by kernel_rfl) (by simp) ?_
          refine AllReadyH.cons rfl (fun K hK => ?_) AllReadyH.nil
          -- 3:  dst := some 120, op := Op.call  callee := Callee.value (Operand.func 15), args := #[Operand.tmp 117, Operand.tmp 118, Operand.t
          go_simp
          go_at_call 15
          refine (HOF.out fa w9.drew Za _ (fun g hg => (H9.out.1.za g hg).2) (H9.out.1.quiet (Below.refl w9.heap.size w9).drew).a ⟨_, _, _, rfl, (H9.out.2.1.below (Below.refl _ _).drew).1, (H9.out.2.2.1.below (Below.refl _ _).drew).rws, (H9.out.2.2.2.1.below (Below.refl _ _).drew).rws⟩).mono ?_
          rintro e w10 ⟨rfl, h'⟩
          have h := h'.drew
          have hft : ∀ x, (S x ∨ (w7.heap.size ≤ x ∧ x < w8.heap.size)) → ¬ Za x := fun x hx e => by
            have h5 := H7.out.za x e
            rcases hx with hx | hx
            · have := H7.out.low x hx; omega
            · omega
          have kA := H9.out.2.2.2.2.chg h.2 (fun e => by have := (H8.out.za _ e).2; omega)
          have H10 := Lib.hid (And.intro (H9.out.1.onA h) (And.intro (H9.out.2.1.chg h.2 hft) (And.intro (H9.out.2.2.1.chg h.2 hft) (And.intro (H9.out.2.2.2.1.chg h.2 hft) kA))))
          have j0 := kA.cell 0 _ rfl
          have j1 := kA.cell 1 _ rfl
          have j2 := kA.cell 2 _ rfl
          have j3 := kA.cell 3 _ rfl
          have j4 := kA.cell 4 _ rfl
          clear h h' hft kA
          go_wp2_with fail
          refine hK.out _ _ ⟨j0, j1, j2, j3, j4⟩ (fun hHeld3 => ?_)
          clear hK K
          try simp only [Act.put, List.setIfInBounds_toArray, List.set_cons_zero, List.set_cons_succ]
          refine wpAnyH_ready (rs := [7]) (by kernel_rfl) (by simp) ?_
          refine AllReadyH.cons rfl (fun K hK => ?_) AllReadyH.nil
          -- 7:  dst := some 124, op := Op.call  callee := Callee.value (Operand.func 15), args := #[Operand.tmp 121, Operand.tmp 122, Operand.t
          go_simp
          go_at_call 15
          refine (HOF.out fb w10 _ _ (fun g hg => (H10.out.1.zb g hg).2) H10.out.1.b ⟨_, _, _, rfl, H10.out.2.1.1, H10.out.2.2.1.rws, H10.out.2.2.2.1.rws⟩).mono ?_
          rintro e w11 ⟨rfl, h⟩
          have kB := H10.out.2.2.2.2.chg h.2 (fun e => by have := (H8.out.zb _ e).2; omega)
          have H11 := Lib.hid (H10.out.1.onB h)
          have i0 := kB.cell 0 _ rfl
          have i1 := kB.cell 1 _ rfl
          have i2 := kB.cell 2 _ rfl
          have i3 := kB.cell 3 _ rfl
          have i4 := kB.cell 4 _ rfl
          clear h kB
          go_wp2_with fail
          refine hK.out _ _ ⟨i0, i1, i2, i3, i4⟩ (fun hHeld7 => ?_)
          clear hK K
          try simp only [Act.put, List.setIfInBounds_toArray, List.set_cons_zero, List.set_cons_succ]
          refine take_yes 8 125 rfl rfl (by kernel_rfl) (by kernel_rfl) (by kernel_rfl) (fun _ _ _ h => h) (by assumption) (by rfl) (v := ?_) ?_ ?_
          rotate_left 1
          · (intro w hSw; (try dsimp only at hSw); go_simp; try with_reducible rfl)
          simp only [List.setIfInBounds_toArray, List.set_cons_zero, List.set_cons_succ]
          refine wpAnyH_done (by kernel_rfl) ?_ _
          clear hHeld hHeld3 hHeld7 c0 c1 c2 c3 c4 i0 i1 i2 i3 i4 j0 j1 j2 j3 j4
          go_wp2
          go_roundw
          case rel => exact ⟨T + D, i + 1, d1, rfl, by go_num, by omega, by omega, by omega, by omega, Lib.hid ⟨HJN.out, _, _, H11.out⟩⟩
          case measure => simp [intOf]; omega
        · by_cases hK4 : KI = 4
          · subst hK4
            have p1 := (H7.out.below.cell (p := ⟨gx, ox + i * 5 + 1, none⟩) hg).trans HXC.out.2.1
            go_wp2_with fail
            refine (within_any X1 0 ((kn : Int) - 1) (by decide) (by omega) (by omega) _).mono ?_
            rintro e w' ⟨rfl, rfl⟩
            generalize withinZ X1 0 ((kn : Int) - 1) = W at *
            have HRW := Lib.hid (fun (f : Nat) => HRP.out f W z (T + D))
            have HJN := Lib.hid (HJ.out.rep W z (T + D))
            generalize repN d W z (T + D) = d1 at *
            generalize repB d W z = rb at *
            clear p0 p1
            go_wp2_with fail
            refine (HRW.out fa _ Za (fun g hg => (H7.out.za g hg).2) H7.out.a).mono ?_
            rintro e w8 ⟨rfl, h⟩
            have H8 := Lib.hid (H7.out.onA h)
            clear h
            go_wp2_with fail
            refine (HRW.out fb _ _ (fun g hg => (H8.out.zb g hg).2) H8.out.b).mono ?_
            rintro e w9 ⟨rfl, h⟩
            have H9 := Lib.hid (H8.out.onB h)
            clear h
            go_wp2
            go_roundw
            case rel => exact ⟨T + D, i + 1, d1, rfl, by go_num, by omega, by omega, by omega, by omega, Lib.hid ⟨HJN.out, _, _, H9.out⟩⟩
            case measure => simp [intOf]; omega
          · have n1 : ((KI == 1) : Bool) = false := by simpa using hK1
            have n4 : ((KI == 4) : Bool) = false := by simpa using hK4
            have HST := Lib.hid (fun (f : Nat) (wz : World) (Zz : Nat → Prop) (z0 : ∀ g, Zz g → g < wz.heap.size) (z1 : FdAt Zz wz f d) => step_z Zz f d P 4 kn _ (T + D) HJ.out.j (by omega) (by omega) (by decide) (by omega) wz z0 z1)
            have HJN := Lib.hid (HJ.out.stp hi25 (T + D))
            have HRL : Hid ((reqL d (T + D)).length ≤ 1000000) := Lib.hid (by rw [← reqL_dueN]; have := dueN_le d.m (T + D); have := HJ.out.ml; omega)
            generalize stepD d (T + D) = d1 at *
            generalize reqL d (T + D) = RL at *
            go_wp2_with fail
            refine (HST.out fa _ Za (fun g hg => (H7.out.za g hg).2) H7.out.a).mono ?_
            rintro e w8 ⟨A8, c8, rfl, h1, h2⟩
            have H8 := Lib.hid (And.intro (H7.out.onA h2) (And.intro h1 h2.2.size))
            clear h1 h2 p0
            go_wp2_with fail
            refine (HST.out fb _ _ (fun g hg => (H8.out.1.zb g hg).2) H8.out.1.b).mono ?_
            rintro e w9 ⟨A9, c9, rfl, h1, h2⟩
            have hr8 := ownsRow_chg H8.out.2.1 h2.2 (fun k hk e => by have h5 := (World.ownsRow.lt H8.out.2.1 k hk).1; have h6 := (H7.out.zb k e).2; omega)
            have HRQ := Lib.hid (requests_same _ _ RL HRL.out w9 (Sho.own hr8) (Sho.own h1))
            have H9 := Lib.hid (H8.out.1.onB h2)
            clear h1 h2 hr8
            go_wp2_with fail
            refine HRQ.out.mono ?_
            rintro e w10 ⟨rfl, h⟩
            have H10 := Lib.hid (H9.out.quiet h)
            clear h
            go_wp2
            go_roundw
            case rel => exact ⟨T + D, i + 1, d1, rfl, by go_num, by omega, by omega, by omega, by omega, Lib.hid ⟨HJN.out, _, _, H10.out⟩⟩
            case measure => simp [intOf]; omega
      · go_wp2
        refine wp_region_held_drew (S := fun _ => True) (by kernel_rfl) ?_ (fun hHeld => ?_)
        · exact True.intro
        refine take_yes 0 66 rfl rfl (by kernel_rfl) (by kernel_rfl) (by kernel_rfl) (fun _ _ _ h => h) (by assumption) (by rfl) (v := ?_) ?_ ?_
        rotate_left 1
        · (intro w hSw; (try dsimp only at hSw); go_simp; try with_reducible rfl)
        simp only [List.setIfInBounds_toArray, List.set_cons_zero, List.set_cons_succ]
        refine take_yes 1 67 rfl rfl (by kernel_rfl) (by kernel_rfl) (by kernel_rfl) (fun _ _ _ h => h) (by assumption) (by rfl) (v := ?_) ?_ ?_
        rotate_left 1
        · (intro w hSw; (try dsimp only at hSw); go_simp; try with_reducible rfl)
        simp only [List.setIfInBounds_toArray, List.set_cons_zero, List.set_cons_succ]
        refine take_yes 2 68 rfl rfl (by kernel_rfl) (by kernel_rfl) (by kernel_rfl) (fun _ _ _ h => h) (by assumption) (by rfl) (v := ?_) ?_ ?_
        rotate_left 1
        · (intro w hSw; (try dsimp only at hSw); go_simp; try with_reducible rfl)
        simp only [List.setIfInBounds_toArray, List.set_cons_zero, List.set_cons_succ]
        refine take_yes 3 69 rfl rfl (by kernel_rfl) (by kernel_rfl) (by kernel_rfl) (fun _ _ _ h => h) (by assumption) (by rfl) (v := ?_) ?_ ?_
        rotate_left 1
        · (intro w hSw; (try dsimp only at hSw); go_simp; try with_reducible rfl)
        simp only [List.setIfInBounds_toArray, List.set_cons_zero, List.set_cons_succ]
        refine take_yes 4 70 rfl rfl (by kernel_rfl) (by kernel_rfl) (by kernel_rfl) (fun _ _ _ h => h) (by assumption) (by rfl) (v := ?_) ?_ ?_
        rotate_left 1
        · (intro w hSw; (try dsimp only at hSw); go_simp; try with_reducible rfl)
        simp only [List.setIfInBounds_toArray, List.set_cons_zero, List.set_cons_succ]
        refine take_no 5 71 rfl rfl (by kernel_rfl) (by kernel_rfl) (by kernel_rfl) (fun _ _ _ h => h) (by assumption) (by rfl) ?_
        simp only [List.setIfInBounds_toArray, List.set_cons_zero, List.set_cons_succ]
        refine take_no 6 72 rfl rfl (by kernel_rfl) (by kernel_rfl) (by kernel_rfl) (fun _ _ _ h => h) (by assumption) (by rfl) ?_
        simp only [List.setIfInBounds_toArray, List.set_cons_zero, List.set_cons_succ]
        refine take_no 7 73 rfl rfl (by kernel_rfl) (by kernel_rfl) (by kernel_rfl) (fun _ _ _ h => h) (by assumption) (by rfl) ?_
        simp only [List.setIfInBounds_toArray, List.set_cons_zero, List.set_cons_succ]
        refine take_no 8 74 rfl rfl (by kernel_rfl) (by kernel_rfl) (by kernel_rfl) (fun _ _ _ h => h) (by assumption) (by rfl) ?_
        simp only [List.setIfInBounds_toArray, List.set_cons_zero, List.set_cons_succ]
        refine take_no 9 75 rfl rfl (by kernel_rfl) (by kernel_rfl) (by kernel_rfl) (fun _ _ _ h => h) (by assumption) (by rfl) ?_
        simp only [List.setIfInBounds_toArray, List.set_cons_zero, List.set_cons_succ]
        refine take_no 10 76 rfl rfl (by kernel_rfl) (by kernel_rfl) (by kernel_rfl) (fun _ _ _ h => h) (by assumption) (by rfl) ?_
        simp only [List.setIfInBounds_toArray, List.set_cons_zero, List.set_cons_succ]
        refine take_no 11 77 rfl rfl (by kernel_rfl) (by kernel_rfl) (by kernel_rfl) (fun _ _ _ h => h) (by assumption) (by rfl) ?_
        simp only [List.setIfInBounds_toArray, List.set_cons_zero, List.set_cons_succ]
        refine take_no 12 78 rfl rfl (by kernel_rfl) (by kernel_rfl) (by kernel_rfl) (fun _ _ _ h => h) (by assumption) (by rfl) ?_
        simp only [List.setIfInBounds_toArray, List.set_cons_zero, List.set_cons_succ]
        refine take_no 13 79 rfl rfl (by kernel_rfl) (by kernel_rfl) (by kernel_rfl) (fun _ _ _ h => h) (by assumption) (by rfl) ?_
        simp only [List.setIfInBounds_toArray, List.set_cons_zero, List.set_cons_succ]
        refine take_no 14 80 rfl rfl (by kernel_rfl) (by kernel_rfl) (by kernel_rfl) (fun _ _ _ h => h) (by assumption) (by rfl) ?_
        simp only [List.setIfInBounds_toArray, List.set_cons_zero, List.set_cons_succ]
        refine take_no 15 81 rfl rfl (by kernel_rfl) (by kernel_rfl) (by kernel_rfl) (fun _ _ _ h => h) (by assumption) (by rfl) ?_
        simp only [List.setIfInBounds_toArray, List.set_cons_zero, List.set_cons_succ]
        refine take_no 16 82 rfl rfl (by kernel_rfl) (by kernel_rfl) (by kernel_rfl) (fun _ _ _ h => h) (by assumption) (by rfl) ?_
        simp only [List.setIfInBounds_toArray, List.set_cons_zero, List.set_cons_succ]
        refine take_no 17 83 rfl rfl (by kernel_rfl) (by kernel_rfl) (by kernel_rfl) (fun _ _ _ h => h) (by assumption) (by rfl) ?_
        simp only [List.setIfInBounds_toArray, List.set_cons_zero, List.set_cons_succ]
        refine take_no 18 84 rfl rfl (by kernel_rfl) (by kernel_rfl) (by kernel_rfl) (fun _ _ _ h => h) (by assumption) (by rfl) ?_
        simp only [List.setIfInBounds_toArray, List.set_cons_zero, List.set_cons_succ]
        refine take_no 19 85 rfl rfl (by kernel_rfl) (by kernel_rfl) (by kernel_rfl) (fun _ _ _ h => h) (by assumption) (by rfl) ?_
        simp only [List.setIfInBounds_toArray, List.set_cons_zero, List.set_cons_succ]
        refine take_yes 20 86 rfl rfl (by kernel_rfl) (by kernel_rfl) (by kernel_rfl) (fun _ _ _ h => h) (by assumption) (by rfl) (v := ?_) ?_ ?_
        rotate_left 1
        · (intro w hSw; (try dsimp only at hSw); go_simp; try with_reducible rfl)
        simp only [List.setIfInBounds_toArray, List.set_cons_zero, List.set_cons_succ]
        refine wpAnyH_done (by kernel_rfl) ?_ _
        have H6 := Lib.hid (HI2.out.quiet (Below.refl wr.heap.size wr).drew)
        generalize wr.drew = w6 at *
        clear hHeld
        go_wp2_with fail
        refine (HRP.out fb (-1) 1 (T + D) w6 _ (fun g hg => (H6.out.zb g hg).2) H6.out.b).mono ?_
        rw [(HFAR.out (-1) 1 (T + D) (.inl (by decide))).1, (HFAR.out (-1) 1 (T + D) (.inl (by decide))).2]
        rintro e w7 ⟨rfl, h⟩
        have H7 := Lib.hid (H6.out.onB h)
        have p2 := (H7.out.below.cell (p := ⟨gx, ox + i * 5 + 2, none⟩) hg).trans HXC.out.2.2
        clear h
        go_wp2_with fail
        refine (within_any X2 0 15 (by decide) (by decide) (by decide) _).mono ?_
        rintro e w' ⟨rfl, rfl⟩
        generalize withinZ X2 0 15 = z at *
        obtain ⟨hz0, hz1⟩ := hz
        have p0 := (H7.out.below.cell (p := ⟨gx, ox + i * 5, none⟩) hg).trans HXC.out.1
        clear p2
        by_cases hK1 : KI = 1
        · subst hK1
          obtain ⟨b1, hgo, hc0, ho0⟩ := H7.out.own.get 0 (by omega)
          rw [Nat.add_zero] at hc0
          rw [HSD.out] at ho0
          obtain ⟨hv2, hv3, hv4⟩ := HCK.out z hz0
          have HSZ := Lib.hid (HSN.out z hz0 (by omega))
          generalize sgn z = s at *
          go_wp2_with fail
          refine (HSZ.out _ _ _ ho0 H7.out.in).mono ?_
          rintro e w8 ⟨v8, rfl, h1, h2⟩
          obtain ⟨⟨num, root⟩, ⟨ix, Ps, Qs⟩⟩ := s
          obtain rfl : num = z := hv4
          obtain ⟨r4, p4, q4, rfl, k1, k2, k3⟩ := h1
          obtain ⟨R, cr, rfl⟩ := k1.1.form
          obtain ⟨P4, cp, rfl⟩ := k2.rws.form
          obtain ⟨Q4, cq, rfl⟩ := k3.rws.form
          have HT8 := Lib.hid (And.intro k1 (And.intro k2 k3))
          have H8 := Lib.hid (H7.out.quiet h2)
          have hz78 := h2.size
          have HOF := Lib.hid (fun (f : Nat) (wz : World) (Zz : Nat → Prop) (v : Value) (z0 : ∀ g, Zz g → g < wz.heap.size) (z1 : FdAt Zz wz f d) (z2 : SgV wz v ⟨⟨num, root⟩, ⟨ix, Ps, Qs⟩⟩) => offer_z Zz f d P 4 kn _ v ⟨⟨num, root⟩, ⟨ix, Ps, Qs⟩⟩ (T + D) HJ.out.j (by omega) (by omega) (by rw [HPP.out.2]; decide) hv3 hv2 wz z0 z1 z2)
          have HJN := Lib.hid (HJ.out.off (by omega) ⟨⟨num, root⟩, ⟨ix, Ps, Qs⟩⟩ hv2 hv3 (T + D))
          generalize offN d ⟨⟨num, root⟩, ⟨ix, Ps, Qs⟩⟩ (T + D) = d1 at *
          generalize offB d ⟨⟨num, root⟩, ⟨ix, Ps, Qs⟩⟩ = ob at *
          clear k1 k2 k3 h2 hv2 hv3 hc0 ho0 hgo HSZ p0
          go_wp2
          refine code_at (fun w9 => Blk w9 w8.heap.size 40 [.int .i64 num, .slice R root.length cr, .int .i64 ix, .slice P4 Ps.length cp, .slice Q4 Qs.length cq] ∧ Below w8.heap.size w8 w9) ?_ ?_
          · exact ⟨Blk.new w8 40 [.int .i64 num, .slice R root.length cr, .int .i64 ix, .slice P4 Ps.length cp, .slice Q4 Qs.length cq], (Below.refl _ _).alloc (Nat.le_refl _) _⟩
          rintro w9 ⟨k0, kb⟩
          have c0 := k0.cell 0 _ rfl
          have c1 := k0.cell 1 _ rfl
          have c2 := k0.cell 2 _ rfl
          have c3 := k0.cell 3 _ rfl
          have c4 := k0.cell 4 _ rfl
          have hb16 := k0.lt
          have H9 := Lib.hid (And.intro (H8.out.quiet kb) (And.intro (HT8.out.1.below kb) (And.intro (HT8.out.2.1.below kb) (And.intro (HT8.out.2.2.below kb) k0))))
          clear k0 kb
          refine wp_region_held_drew (S := fun w' => w'.cell? ⟨w8.heap.size, 0, none⟩ = some (.int .i64 num) ∧ w'.cell? ⟨w8.heap.size, 1, none⟩ = some (.slice R root.length cr) ∧ w'.cell? ⟨w8.heap.size, 2, none⟩ = some (.int .i64 ix) ∧ w'.cell? ⟨w8.heap.size, 3, none⟩ = some (.slice P4 Ps.length cp) ∧ w'.cell? ⟨w8.heap.size, 4, none⟩ = some (.slice Q4 Qs.length cq)) (by kernel_rfl) ?_ (fun hHeld => ?_)
          · exact ⟨c0, c1, c2, c3, c4⟩
          refine take_yes 0 117 rfl rfl (by kernel_rfl) (by kernel_rfl) (by kernel_rfl) (fun _ _ _ h => h) (by assumption) (by rfl) (v := ?_) ?_ ?_
          rotate_left 1
          · (intro w hSw; (try dsimp only at hSw); go_simp; try with_reducible rfl)
          simp only [List.setIfInBounds_toArray, List.set_cons_zero, List.set_cons_succ]
          refine take_yes 1 118 rfl rfl (by kernel_rfl) (by kernel_rfl) (by kernel_rfl) (fun _ _ _ h => h) (by assumption) (by rfl) (v := ?_) ?_ ?_
          rotate_left 1
          · (intro w hSw; (try dsimp only at hSw); go_simp; try with_reducible rfl)
          simp only [List.setIfInBounds_toArray, List.set_cons_zero, List.set_cons_succ]
          refine take_yes 2 119 rfl rfl (by kernel_rfl) (by kernel_rfl) (by kernel_rfl) (fun _ _ _ h => h) (by assumption) (by rfl) (v := ?_) ?_ ?_
          rotate_left 1
          · (intro w hSw; (try dsimp only at hSw); go_simp; try with_reducible rfl)
          simp only [List.setIfInBounds_toArray, List.set_cons_zero, List.set_cons_succ]
          refine take_yes 4 121 rfl rfl (by kernel_rfl) (by kernel_rfl) (by kernel_rfl) (fun _ _ _ h => h) (by assumption) (by rfl) (v := ?_) ?_ ?_
          rotate_left 1
          · (intro w hSw; (try dsimp only at hSw); go_simp; try with_reducible rfl)
          simp only [List.setIfInBounds_toArray, List.set_cons_zero, List.set_cons_succ]
          refine take_yes 5 122 rfl rfl (by kernel_rfl) (by kernel_rfl) (by kernel_rfl) (fun _ _ _ h => h) (by assumption) (by rfl) (v := ?_) ?_ ?_
          rotate_left 1
          · (intro w hSw; (try dsimp only at hSw); go_simp; try with_reducible rfl)
          simp only [List.setIfInBounds_toArray, List.set_cons_zero, List.set_cons_succ]
          refine take_yes 6 123 rfl rfl (by kernel_rfl) (by kernel_rfl) (by kernel_rfl) (fun _ _ _ h => h) (by assumption) (by rfl) (v := ?_) ?_ ?_
          rotate_left 1
          · (intro w hSw; (try dsimp only at hSw); go_simp; try with_reducible rfl)
          simp only [List.setIfInBounds_toArray, List.set_cons_zero, List.set_cons_succ]
          refine wpAnyH_ready (rs := [3]) (by kernel_rfl) (by simp) ?_
          refine AllReadyH.cons rfl (fun K hK => ?_) AllReadyH.nil
          -- 3:  dst := some 120, op := Op.call  callee := Callee.value (Operand.func 15), args := #[Operand.tmp 117, Operand.tmp 118, Operand.t
          go_simp
          go_at_call 15
          refine (HOF.out fa w9.drew Za _ (fun g hg => (H9.out.1.za g hg).2) (H9.out.1.quiet (Below.refl w9.heap.size w9).drew).a ⟨_, _, _, rfl, (H9.out.2.1.below (Below.refl _ _).drew).1, (H9.out.2.2.1.below (Below.refl _ _).drew).rws, (H9.out.2.2.2.1.below (Below.refl _ _).drew).rws⟩).mono ?_
          rintro e w10 ⟨rfl, h'⟩
          have h := h'.drew
          have hft : ∀ x, (S x ∨ (w7.heap.size ≤ x ∧ x < w8.heap.size)) → ¬ Za x := fun x hx e => by
            have h5 := H7.out.za x e
            rcases hx with hx | hx
            · have := H7.out.low x hx; omega
            · omega
          have kA := H9.out.2.2.2.2.chg h.2 (fun e => by have := (H8.out.za _ e).2; omega)
          have H10 := Lib.hid (And.intro (H9.out.1.onA h) (And.intro (H9.out.2.1.chg h.2 hft) (And.intro (H9.out.2.2.1.chg h.2 hft) (And.intro (H9.out.2.2.2.1.chg h.2 hft) kA))))
          have j0 := kA.cell 0 _ rfl
          have j1 := kA.cell 1 _ rfl
          have j2 := kA.cell 2 _ rfl
          have j3 := kA.cell 3 _ rfl
          have j4 := kA.cell 4 _ rfl
          clear h h' hft kA
          go_wp2_with fail
          refine hK.out _ _ ⟨j0, j1, j2, j3, j4⟩ (fun hHeld3 => ?_)
          clear hK K
          try simp only [Act.put, List.setIfInBounds_toArray, List.set_cons_zero, List.set_cons_succ]
          refine wpAnyH_ready (rs := [7]) (by kernel_rfl) (by simp) ?_
          refine AllReadyH.cons rfl (fun K hK => ?_) AllReadyH.nil
          -- 7:  dst := some 124, op := Op.call  callee := Callee.value (Operand.func 15), args := #[Operand.tmp 121, Operand.tmp 122, Operand.t
          go_simp
          go_at_call 15
          refine (HOF.out fb w10 _ _ (fun g hg => (H10.out.1.zb g hg).2) H10.out.1.b ⟨_, _, _, rfl, H10.out.2.1.1, H10.out.2.2.1.rws, H10.out.2.2.2.1.rws⟩).mono ?_
          rintro e w11 ⟨rfl, h⟩
          have kB := H10.out.2.2.2.2.chg h.2 (fun e => by have := (H8.out.zb _ e).2; omega)
          have H11 := Lib.hid (H10.out.1.onB h)
          have i0 := kB.cell 0 _ rfl
          have i1 := kB.cell 1 _ rfl
          have i2 := kB.cell 2 _ rfl
          have i3 := kB.cell 3 _ rfl
          have i4 := kB.cell 4 _ rfl
          clear h kB
          go_wp2_with fail
          refine hK.out _ _ ⟨i0, i1, i2, i3, i4⟩ (fun hHeld7 => ?_)
          clear hK K
          try simp only [Act.put, List.setIfInBounds_toArray, List.set_cons_zero, List.set_cons_succ]
          refine take_yes 8 125 rfl rfl (by kernel_rfl) (by kernel_rfl) (by kernel_rfl) (fun _ _ _ h => h) (by assumption) (by rfl) (v := ?_) ?_ ?_
          rotate_left 1
          · (intro w hSw; (try dsimp only at hSw); go_simp; try with_reducible rfl)
          simp only [List.setIfInBounds_toArray, List.set_cons_zero, List.set_cons_succ]
          refine wpAnyH_done (by kernel_rfl) ?_ _
          clear hHeld hHeld3 hHeld7 c0 c1 c2 c3 c4 i0 i1 i2 i3 i4 j0 j1 j2 j3 j4
          go_wp2
          go_roundw
          case rel => exact ⟨T + D, i + 1, d1, rfl, by go_num, by omega, by omega, by omega, by omega, Lib.hid ⟨HJN.out, _, _, H11.out⟩⟩
          case measure => simp [intOf]; omega
        · by_cases hK4 : KI = 4
          · subst hK4
            have p1 := (H7.out.below.cell (p := ⟨gx, ox + i * 5 + 1, none⟩) hg).trans HXC.out.2.1
            go_wp2_with fail
            refine (within_any X1 0 ((kn : Int) - 1) (by decide) (by omega) (by omega) _).mono ?_
            rintro e w' ⟨rfl, rfl⟩
            generalize withinZ X1 0 ((kn : Int) - 1) = W at *
            have HRW := Lib.hid (fun (f : Nat) => HRP.out f W z (T + D))
            have HJN := Lib.hid (HJ.out.rep W z (T + D))
            generalize repN d W z (T + D) = d1 at *
            generalize repB d W z = rb at *
            clear p0 p1
            go_wp2_with fail
            refine (HRW.out fa _ Za (fun g hg => (H7.out.za g hg).2) H7.out.a).mono ?_
            rintro e w8 ⟨rfl, h⟩
            have H8 := Lib.hid (H7.out.onA h)
            clear h
            go_wp2_with fail
            refine (HRW.out fb _ _ (fun g hg => (H8.out.zb g hg).2) H8.out.b).mono ?_
            rintro e w9 ⟨rfl, h⟩
            have H9 := Lib.hid (H8.out.onB h)
            clear h
            go_wp2
            go_roundw
            case rel => exact ⟨T + D, i + 1, d1, rfl, by go_num, by omega, by omega, by omega, by omega, Lib.hid ⟨HJN.out, _, _, H9.out⟩⟩
            case measure => simp [intOf]; omega
          · have n1 : ((KI == 1) : Bool) = false := by simpa using hK1
            have n4 : ((KI == 4) : Bool) = false := by simpa using hK4
            have HST := Lib.hid (fun (f : Nat) (wz : World) (Zz : Nat → Prop) (z0 : ∀ g, Zz g → g < wz.heap.size) (z1 : FdAt Zz wz f d) => step_z Zz f d P 4 kn _ (T + D) HJ.out.j (by omega) (by omega) (by decide) (by omega) wz z0 z1)
            have HJN := Lib.hid (HJ.out.stp hi25 (T + D))
            have HRL : Hid ((reqL d (T + D)).length ≤ 1000000) := Lib.hid (by rw [← reqL_dueN]; have := dueN_le d.m (T + D); have := HJ.out.ml; omega)
            generalize stepD d (T + D) = d1 at *
            generalize reqL d (T + D) = RL at *
            go_wp2_with fail
            refine (HST.out fa _ Za (fun g hg => (H7.out.za g hg).2) H7.out.a).mono ?_
            rintro e w8 ⟨A8, c8, rfl, h1, h2⟩
            have H8 := Lib.hid (And.intro (H7.out.onA h2) (And.intro h1 h2.2.size))
            clear h1 h2 p0
            go_wp2_with fail
            refine (HST.out fb _ _ (fun g hg => (H8.out.1.zb g hg).2) H8.out.1.b).mono ?_
            rintro e w9 ⟨A9, c9, rfl, h1, h2⟩
            have hr8 := ownsRow_chg H8.out.2.1 h2.2 (fun k hk e => by have h5 := (World.ownsRow.lt H8.out.2.1 k hk).1; have h6 := (H7.out.zb k e).2; omega)
            have HRQ := Lib.hid (requests_same _ _ RL HRL.out w9 (Sho.own hr8) (Sho.own h1))
            have H9 := Lib.hid (H8.out.1.onB h2)
            clear h1 h2 hr8
            go_wp2_with fail
            refine HRQ.out.mono ?_
            rintro e w10 ⟨rfl, h⟩
            have H10 := Lib.hid (H9.out.quiet h)
            clear h
            go_wp2
            go_roundw
            case rel => exact ⟨T + D, i + 1, d1, rfl, by go_num, by omega, by omega, by omega, by omega, Lib.hid ⟨HJN.out, _, _, H10.out⟩⟩
            case measure => simp [intOf]; omega
    · have hlt2 : ¬ i < l.length ∨ (i < l.length ∧ ¬ i < 25) := by omega
      have hkn := known_any wr
      have HKN := Lib.hid hkn
      obtain ⟨Za, Zb, hI⟩ := HI.out.2
      have HI2 := Lib.hid hI.below
      clear hkn hlt hI
      rcases hlt2 with hlt | ⟨hlt, hlt2⟩
      all_goals
        go_wp2_with fail
        refine HKN.out.mono ?_
        rintro e w' ⟨rfl, h⟩
        have HE := Lib.hid (HI2.out.trans (h.mono HI2.out.size))
        clear h
        go_wp2
        go_ret
        exact ⟨rfl, HE.out⟩
end Go.Proofs.Ytlkgeifmppadmaa
namespace Go.Proofs.Ytlkgeifmppadmaa.RowWords
open Go.ChangeShapes Go.WideShapes Go.ChangeAt Go.RowKit Go.Joins Go.Deep
set_option linter.unusedVariables false
theorem own : ownKnob Try.prog.godebug = none := by kernel_rfl
theorem laidOut : laidOutB Try.prog = true := by kernel_rfl
section
variable {H : Type} {enc : TypeId × Value → H} {w : World} {base : Nat} {spare : Nat → Bool} {held : Bool}
theorem args_ints {A : Option Addr} {len cap : Nat} {d : DataW H} {p : List MemPlace} (h : DataW.Trod enc Try.prog w base spare held 22 (.slice A len cap) d p) : ∃ xs : List Int, xs.length = len ∧ ArgInts w A xs := by
  obtain ⟨fuel, hf⟩ := h
  rcases open_ints Try.underlying22 Try.underlying3 (by kernel_rfl) hf with ⟨hcs, _⟩ | ⟨x, l, c, zs, hcs, _, hl, hm, hz, _, hcell, hwz⟩
  · simp [Value.cells] at hcs
    obtain ⟨rfl, rfl, rfl⟩ := hcs
    exact ⟨[], rfl, fun k hk => absurd hk (Nat.not_lt_zero _)⟩
  · simp [Value.cells] at hcs
    obtain ⟨rfl, rfl, rfl⟩ := hcs
    have hle : len ≤ zs.length := by
      have hz' := hz
      split at hz'
      · rw [hz']; exact hl
      · rw [hz']; exact Nat.le_refl _
    refine ⟨zs.take len, by rw [List.length_take]; omega, fun k hk => ?_⟩
    rw [List.length_take] at hk
    obtain ⟨b, off, rfl, hc⟩ := ints_at hcell (by omega)
    have h2 := hc k (by omega)
    refine ⟨b, off, rfl, World.block_lt_of_cell? w _ h2, ?_⟩
    rw [h2, List.getElem_take, List.getD_eq_getElem?_getD, List.getElem?_eq_getElem (by omega)]
    rfl
end
end Go.Proofs.Ytlkgeifmppadmaa.RowWords
namespace Go.Proofs.Ytlkgeifmppadmaa.RowWords
open Go.ChangeShapes Go.WideShapes Go.ChangeAt Go.RowKit Go.Deep
set_option linter.unusedVariables false
section
variable {H : Type} {enc : TypeId × Value → H} {w : World} {base : Nat} {spare : Nat → Bool} {held : Bool}
theorem ask5_struct : ∃ f0 f1 f2 f3 f4 : Field, Try.prog.underlying 55 = some (.struct #[f0, f1, f2, f3, f4]) ∧ f0.type = 3 ∧ f1.type = 3 ∧ f2.type = 3 ∧ f3.type = 3 ∧ f0.offset = 0 ∧ f1.offset = 1 ∧ f2.offset = 2 ∧ f3.offset = 3 := ⟨_, _, _, _, _, Try.underlying55, rfl, rfl, rfl, rfl, rfl, rfl, rfl, rfl⟩
theorem ask5_size : Try.prog.cellsOf 55 = 5 := by kernel_rfl
theorem int5_size : Try.prog.cellsOf 3 = 1 := by kernel_rfl
theorem one_int5 {fuel : Nat} {cs : List Value} {x : DataW H × List MemPlace} (h : DataW.trod enc Try.prog w base spare held fuel 3 cs = some x) : ∃ n : Int, cs = [.int .i64 n] := by
  obtain ⟨n, e, _⟩ := DataW.trod_int Try.underlying3 h
  exact ⟨n, e⟩
set_option maxRecDepth 100000 in
theorem args_ask5 {A : Option Addr} {len cap : Nat} {d : DataW H} {p : List MemPlace} (h : DataW.Trod enc Try.prog w base spare held 53 (.slice A len cap) d p) : ∃ l : List AskD, l.length = len ∧ ArgAsk w A l := by
  obtain ⟨fuel, hf⟩ := h
  rcases open_slice Try.underlying53 hf with ⟨hcs, _⟩ | ⟨a, l, c, m, n, D, Pl, hcs, _, hl, hm, hmm, _, hi⟩
  · simp [Value.cells] at hcs
    obtain ⟨rfl, rfl, rfl⟩ := hcs
    exact ⟨[], rfl, fun k hk => absurd hk (Nat.not_lt_zero _)⟩
  · simp [Value.cells] at hcs
    obtain ⟨rfl, rfl, rfl⟩ := hcs
    have hle : len ≤ m := by rw [hmm]; split <;> omega
    have key : ∀ i, i < len → ∃ q : AskD, w.cell? (a.add (i * 5)) = some (.int .i64 q.kind) ∧ w.cell? (a.add (i * 5 + 1)) = some (.int .i64 q.who) ∧ w.cell? (a.add (i * 5 + 2)) = some (.int .i64 q.size) ∧ w.cell? (a.add (i * 5 + 3)) = some (.int .i64 q.now) := by
      intro i hlt
      obtain ⟨cs', hc, ht'⟩ := hi i (by omega)
      obtain ⟨f0, f1, f2, f3, f4, hs, e0, e1, e2, e3, o0, o1, o2, o3⟩ := ask5_struct
      obtain ⟨ys, n', hn', hy, hlen, hyl, hfl⟩ := DataW.trod_struct hs ht'
      rw [ask5_size] at hc hlen
      obtain ⟨_, hcl, hat⟩ := World.cells?_some hc
      match cs', hlen with
      | [c0, c1, c2, c3, c4], _ =>
        have g0 := hfl 0 f0 rfl
        have g1 := hfl 1 f1 rfl
        have g2 := hfl 2 f2 rfl
        have g3 := hfl 3 f3 rfl
        rw [e0, o0, int5_size] at g0
        rw [e1, o1, int5_size] at g1
        rw [e2, o2, int5_size] at g2
        rw [e3, o3, int5_size] at g3
        obtain ⟨y0, hy0⟩ : ∃ y, ys[0]? = some y := ⟨_, List.getElem?_eq_getElem (by rw [hyl]; simp)⟩
        obtain ⟨y1, hy1⟩ : ∃ y, ys[1]? = some y := ⟨_, List.getElem?_eq_getElem (by rw [hyl]; simp)⟩
        obtain ⟨y2, hy2⟩ : ∃ y, ys[2]? = some y := ⟨_, List.getElem?_eq_getElem (by rw [hyl]; simp)⟩
        obtain ⟨y3, hy3⟩ : ∃ y, ys[3]? = some y := ⟨_, List.getElem?_eq_getElem (by rw [hyl]; simp)⟩
        rw [hy0] at g0
        rw [hy1] at g1
        rw [hy2] at g2
        rw [hy3] at g3
        obtain ⟨n0, k0⟩ := one_int5 g0
        obtain ⟨n1, k1⟩ := one_int5 g1
        obtain ⟨n2, k2⟩ := one_int5 g2
        obtain ⟨n3, k3⟩ := one_int5 g3
        have k0' : c0 = .int .i64 n0 := by simpa using k0
        have k1' : c1 = .int .i64 n1 := by simpa using k1
        have k2' : c2 = .int .i64 n2 := by simpa using k2
        have k3' : c3 = .int .i64 n3 := by simpa using k3
        subst k0' k1' k2' k3'
        refine ⟨⟨n0, n1, n2, n3⟩, ?_, ?_, ?_, ?_⟩
        · have := hat 0 (by decide)
          rw [Go.Deep.add_add] at this
          simpa using this
        · have := hat 1 (by decide)
          rw [Go.Deep.add_add] at this
          simpa using this
        · have := hat 2 (by decide)
          rw [Go.Deep.add_add] at this
          simpa using this
        · have := hat 3 (by decide)
          rw [Go.Deep.add_add] at this
          simpa using this
    have hex : ∀ n, n ≤ len → ∃ l : List AskD, l.length = n ∧ ∀ k (h : k < l.length), w.cell? (a.add (k * 5)) = some (.int .i64 l[k].kind) ∧ w.cell? (a.add (k * 5 + 1)) = some (.int .i64 l[k].who) ∧ w.cell? (a.add (k * 5 + 2)) = some (.int .i64 l[k].size) ∧ w.cell? (a.add (k * 5 + 3)) = some (.int .i64 l[k].now) := by
      intro n
      induction n with
      | zero => exact fun _ => ⟨[], rfl, fun k hk => absurd hk (Nat.not_lt_zero _)⟩
      | succ n ih =>
        intro hn
        obtain ⟨l, hl, hc⟩ := ih (by omega)
        obtain ⟨q, q0, q1, q2, q3⟩ := key n (by omega)
        refine ⟨l ++ [q], by simp [hl], fun k hk => ?_⟩
        by_cases e : k < l.length
        · rw [List.getElem_append_left e]; exact hc k e
        · have : k = n := by simp at hk; omega
          subst this
          rw [List.getElem_append_right (by omega)]
          simp only [hl, Nat.sub_self, List.getElem_cons_zero]
          exact ⟨q0, q1, q2, q3⟩
    obtain ⟨l, hl, hc⟩ := hex len (Nat.le_refl _)
    refine ⟨l, hl, fun k hk => ?_⟩
    obtain ⟨c0, c1, c2, c3⟩ := hc k hk
    obtain ⟨b, off, spot⟩ := a
    have hspot : spot = none := by simpa [Addr.add] using World.cell?_spot (hc 0 (by omega)).1
    subst hspot
    rw [Go.WideShapes.add_plain] at c0 c1 c2 c3
    exact ⟨b, off, rfl, World.block_lt_of_cell? w _ c0, c0, by rw [Nat.add_assoc]; exact c1, by rw [Nat.add_assoc]; exact c2, by rw [Nat.add_assoc]; exact c3⟩
end
end Go.Proofs.Ytlkgeifmppadmaa.RowWords
namespace Go.Proofs.Ytlkgeifmppadmaa.feederTwins
open Go.ChangeShapes Go.WideShapes Go.ChangeAt Go.RowKit Go.Joins Go.Deep
open Go.Proofs.Ytlkgeifmppadmaa.RowWords
set_option linter.unusedVariables false
set_option linter.unusedSimpArgs false


set_option maxRecDepth 100000 in
theorem lifted (os : Os) (started : os.Started) (H : Type) (enc : TypeId × Value → H) :
    ReturnsInHanded {} Try.checked os 4 .any (Rows.feederTwinsSpec.pre6 enc Try.prog Try.f4 Rows.feederTwinsRow.domain false) (Rows.feederTwinsSpec.post enc Try.prog Try.f4 false true false false) := by
  refine returnsInHanded_of_change_sized (C := Try.checked) own started (by kernel_rfl) Try.func4
    (ChangeSpec.witness6 (enc := enc) (C := Try.checked) false ⟨#[], #[.int .i64 0, .slice none 0 0, .slice none 0 0], []⟩ 8 (by kernel_rfl) (by kernel_rfl) (by kernel_rfl) (by kernel_rfl)) ?_
  intro W base args ds gs before hval0 hW hcnd hsz0 _
  have hval : ∀ (j : Nat) t v, Try.f4.params[j]? = some t → args[j]? = some v → Value.okWide Try.prog W .any base t v := hval0
  have hW' := hW
  obtain ⟨p, q, hA0, hV, rfl, hfz, hnd⟩ := hW
  have hA : DataW.TrodAll enc Try.prog W 0 (fun _ => true) true Try.f4.params.toList args.toList ds p := hA0
  rw [Try.params4] at hA hval
  obtain ⟨v0, vs0, d0, ds0, p0, q0, hargs, rfl, rfl, h0, r0⟩ := trodAll_cons hA
  obtain ⟨v1, vs1, d1, ds1, p1, q1, rfl, rfl, rfl, h1, r1⟩ := trodAll_cons r0
  obtain ⟨v2, vs2, d2, ds2, p2, q2, rfl, rfl, rfl, h2, r2⟩ := trodAll_cons r1
  obtain ⟨rfl, rfl, rfl⟩ := trodAll_nil r2
  obtain rfl : args = #[v0, v1, v2] := by cases args; simp_all
  obtain ⟨rfl, rfl⟩ := trodVars_none hV
  obtain ⟨a0, rfl, rfl, rfl, w0⟩ := open_int Try.underlying3 (hval 0 3 v0 rfl rfl) h0
  have k1 := h1
  have lt1 : ∀ x ∈ p1, x.block < W.heap.size := by obtain ⟨m, hm⟩ := k1; exact DataW.trod_lt m _ _ _ hm
  obtain ⟨A1, len1, cap1, rfl⟩ := okWide_slice Try.underlying53 (hval 1 53 v1 rfl rfl)
  obtain ⟨xs1, rfl, hz1⟩ : ∃ xs : List AskD, xs.length = len1 ∧ ArgAsk W A1 xs := args_ask5 h1
  have k2 := h2
  have lt2 : ∀ x ∈ p2, x.block < W.heap.size := by obtain ⟨m, hm⟩ := k2; exact DataW.trod_lt m _ _ _ hm
  obtain ⟨A2, len2, cap2, rfl⟩ := okWide_slice Try.underlying22 (hval 2 22 v2 rfl rfl)
  obtain ⟨xs2, rfl, hz2⟩ : ∃ xs : List Int, xs.length = len2 ∧ ArgInts W A2 xs := args_ints h2
  clear hA0 hval0 hsz0
  refine (twins_any a0 A1 cap1 xs1 A2 cap2 xs2 W hz1 hz2).mono fun e W' ⟨he, bel⟩ => ?_
  subst he
  exact ⟨_, rfl, _, _, _, [], _, [], hW', trodAll_mk1 (shut_bool Try.underlying4 _), (trodAll_cons_mk (shut_int Try.underlying3 w0) (trodAll_cons_mk (Below.trod laidOut (by kernel_rfl) (of_decide_eq_true (by kernel_rfl)) k1 bel lt1) (trodAll_cons_mk (Below.trod laidOut (by kernel_rfl) (of_decide_eq_true (by kernel_rfl)) k2 bel lt2) trodAll_mk0))), rfl, bel.frame _, fun h => by cases h⟩
theorem over : Rows.feederTwinsRow.holds Try.pinned (OpenSpec.ofChange Rows.feederTwinsSpec) :=
  OpenClaim.holds_of_wide 4 Try.f4 rfl rfl rfl rfl rfl rfl rfl ⟨rfl, rfl, rfl, rfl, rfl⟩ rfl rfl rfl rfl rfl (by kernel_rfl) Try.func4 (by kernel_rfl)
    (of_decide_eq_true (by kernel_rfl)) (by unfold Func.isWrapper; first | (rw [if_pos (by decide +kernel)]; kernel_rfl) | (rw [if_neg (by decide +kernel)]; exact ⟨rfl, rfl⟩))
    (fun os started H enc _ => lifted os started H enc)
theorem proved : Rows.FeederTwinsSaid := over
end Go.Proofs.Ytlkgeifmppadmaa.feederTwins
namespace Go.Proofs.Ytlkgeifmppadmaa
/-- The row, under a short name, for the claim. -/
theorem feederTwins_holds : Rows.FeederTwinsSaid := feederTwins.proved
end Go.Proofs.Ytlkgeifmppadmaa
