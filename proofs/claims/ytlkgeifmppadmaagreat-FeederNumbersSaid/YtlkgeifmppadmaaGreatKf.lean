/- The heap's functions over a pile: up, down, Push, Pop, Init. The heap's Pop and Init; the agenda's New, Add, Next, Due, Len. The agenda's New, Add, Next, Due, Len, over its list in order. The agenda's Cancel: its closure, slices.IndexFunc and slices.DeleteFunc over a pile. A feeder in memory. A new feeder. Conditions: as each theorem states them. -/
import Derived.Test.YtlkgeifmppadmaaGreatKe
import Derived.Test.YtlkgeifmppadmaaGreatKd
import Derived.Laws.MakeOwn
namespace Go.Proofs.YtlkgeifmppadmaaGreat
open Go.RowKit
set_option linter.unusedVariables false
set_option maxRecDepth 100000
set_option linter.unusedSimpArgs false

structure Hp (w : World) (b g cap : Nat) (l : List Ent) (rest : List Value) (o : Value) : Prop where
 blk : Blk w b 103 [.slice (some ⟨g, 0, none⟩) l.length cap, o]
 pile : PileAt w g cap l rest
 ne : b ≠ g
namespace Hp
variable {w w1 : World} {b g cap : Nat} {l : List Ent} {rest : List Value} {o : Value} {S : Nat → Prop}
theorem below (h : Hp w b g cap l rest o) (hc : Below w.heap.size w w1) : Hp w1 b g cap l rest o := ⟨h.blk.below hc, h.pile.below hc, h.ne⟩
theorem drewN (h : Hp w b g cap l rest o) (n : Nat) : Hp (w.drewN n) b g cap l rest o := ⟨h.blk, h.pile.drewN n, h.ne⟩
theorem cell (h : Hp w b g cap l rest o) : w.cell? ⟨b, 0, none⟩ = some (.slice (some ⟨g, 0, none⟩) l.length cap) := h.blk.cell 0 _ rfl
theorem turned {l' : List Ent} (h : Hp w b g cap l rest o) (hp : PileAt w1 g cap l' rest) (hl : l'.length = l.length) (hc : Chg w w1 (fun k => k = g)) : Hp w1 b g cap l' rest o := ⟨by rw [hl]; exact h.blk.chg hc h.ne, hp, h.ne⟩
end Hp

theorem swapL_eq (l : List Ent) (i j : Nat) (hi : i < l.length) (hj : j < l.length) : swapL l i j hi hj = sw l i j := by unfold swapL sw; rw [gE_at hi, gE_at hj]
theorem meth_Len (b : Nat) (A : Option Addr) (n c : Nat) (w : World) (h : w.cell? ⟨b, 0, none⟩ = some (.slice A n c)) : (method 289 140 (.pointer (some ⟨b, 0, none⟩)) "Len").run Tryz.prog w = .ok (130, .slice A n c) w :=
 method_through (e := 101) (by kernel_rfl) Tryz.underlying140 288 _ _ w (by go_simp)
theorem meth_Less (b : Nat) (A : Option Addr) (n c : Nat) (w : World) (h : w.cell? ⟨b, 0, none⟩ = some (.slice A n c)) : (method 289 140 (.pointer (some ⟨b, 0, none⟩)) "Less").run Tryz.prog w = .ok (131, .slice A n c) w :=
 method_through (e := 101) (by kernel_rfl) Tryz.underlying140 288 _ _ w (by go_simp)
theorem meth_Swap (b : Nat) (A : Option Addr) (n c : Nat) (w : World) (h : w.cell? ⟨b, 0, none⟩ = some (.slice A n c)) : (method 289 140 (.pointer (some ⟨b, 0, none⟩)) "Swap").run Tryz.prog w = .ok (132, .slice A n c) w :=
 method_through (e := 101) (by kernel_rfl) Tryz.underlying140 288 _ _ w (by go_simp)
theorem meth_Push (a : Addr) (w : World) : (method 289 140 (.pointer (some a)) "Push").run Tryz.prog w = .ok (136, .pointer (some a)) w := by kernel_rfl
theorem meth_Pop (a : Addr) (w : World) : (method 289 140 (.pointer (some a)) "Pop").run Tryz.prog w = .ok (135, .pointer (some a)) w := by kernel_rfl

theorem up_any (b g cap : Nat) (l0 : List Ent) (rest : List Value) (o : Value) (j0 : Nat) (hj0 : j0 < l0.length) (hsm : l0.length < 1000000000000) (w : World) (h0 : Hp w b g cap l0 rest o) (hup : UpInv l0 j0) :
  Calls Tryz.prog 102 #[.iface 140 (.pointer (some ⟨b, 0, none⟩)), .int .i64 j0] w
   fun e w' => e = .returned (.tuple #[]) ∧ ∃ l, l.Perm l0 ∧ HeapFrom l 0 l.length ∧ Hp w' b g cap l rest o ∧ Chg w w' (fun k => k = g) := by
 have H0 := Lib.hid h0
 have HU := Lib.hid hup
 clear h0 hup
 go_enter Tryz.func102, Tryz.ntmps102
 go_wp2
 go_loopw [1] (fun v wr => ∃ (j : Nat) (l : List Ent), v = .int .i64 j ∧ j < l.length ∧ l.length ≤ l0.length ∧ Hid (l.Perm l0) ∧ Hid (UpInv l j) ∧ Hid (Hp wr b g cap l rest o) ∧ Hid (Chg w wr (fun k => k = g))) (fun v _ => (intOf v).toNat)
 case atStart => exact ⟨j0, l0, rfl, hj0, Nat.le_refl _, Lib.hid (List.Perm.refl _), HU, H0, Lib.hid (Chg.refl _ _)⟩
 case round =>
  obtain ⟨j, l, rfl, hj, hlen, HP, HI, HH, HC⟩ := hrel
  by_cases hz : j = 0
  ·subst hz
   go_wp2
   go_end0
   exact ⟨rfl, l, HP.out, up_end HI.out (.inl rfl), HH.out, HC.out⟩
  ·have hcell := HH.out.cell
   have hmL := meth_Less b (some ⟨g, 0, none⟩) l.length cap wr hcell
   have hne : (((j : Int) - 1) / 2 == (j : Int)) = false := by rw [beq_eq_false_iff_ne]; omega
   have hpn := Lib.hid (show ((j : Int) - 1) / 2 = (((j - 1) / 2 : Nat) : Int) by omega)
   go_wp2_with fail
   rw [hpn.out]
   refine (less_any g cap l rest j ((j - 1) / 2) hj (by omega) wr HH.out.pile).mono ?_
   rintro e w1 ⟨rfl, hb⟩
   generalize hd : decide (cmpE l[j] l[(j - 1) / 2] < 0) = d
   have HD := Lib.hid hd
   have HH1 := Lib.hid (HH.out.below hb)
   have HC1 := Lib.hid (HC.out.trans (Chg.of_below (S := fun _ => False) hb) (fun _ _ h => h.elim))
   clear hd hb hcell hmL HH HC
   have hcell := HH1.out.cell
   have hmS := meth_Swap b (some ⟨g, 0, none⟩) l.length cap w1 hcell
   cases d with
   | false =>
    go_wp2
    go_end0
    refine ⟨rfl, l, HP.out, up_end HI.out (.inr ?_), HH1.out, HC1.out⟩
    have h1 := of_decide_eq_false HD.out
    rw [cmpE_neg] at h1
    rw [gE_at (by omega), gE_at hj]
    exact Classical.not_not.1 h1
   | true =>
    go_wp2_with fail
    refine (swap_any g cap l rest ((j - 1) / 2) j (by omega) hj w1 HH1.out.pile).mono ?_
    rintro e w2 ⟨rfl, hp2, hc2⟩
    have HP2 := Lib.hid hp2
    have HC2 := Lib.hid hc2
    clear hp2 hc2
    go_wp2
    go_roundw
    case rel =>
     have hp3 := HP2.out
     rw [swapL_eq] at hp3
     refine ⟨(j - 1) / 2, sw l ((j - 1) / 2) j, by congr 1, by rw [sw_length]; omega, by rw [sw_length]; exact hlen, Lib.hid ((sw_perm l _ j (by omega) hj).trans HP.out), Lib.hid (up_step hj (by omega) HI.out ?_), Lib.hid (HH1.out.turned hp3 (sw_length _ _ _) HC2.out), Lib.hid (HC1.out.trans HC2.out (fun _ _ h => h))⟩
     have h1 := of_decide_eq_true HD.out
     rw [cmpE_neg] at h1
     rw [gE_at (by omega), gE_at hj]
     exact h1
    case measure => simp [intOf]; omega

theorem row_pile {w : World} {base g cap n : Nat} {l : List Ent} (h : w.ownsRow base 137 3 (.slice (some ⟨g, 0, none⟩) n cap) n (cellsOf l)) (hn : n = l.length) : base ≤ g ∧ ∃ rest, PileAt w g cap l rest := by
 obtain ⟨_, h2⟩ := h
 rcases h2 with ⟨h2, _⟩ | ⟨g', cap', cur, he, hb, hh, hle, hm, hs, ht⟩
 ·cases h2
 ·injection he with h1 h2 h3
  injection h1 with h1
  injection h1 with h1 _ _
  subst h1 h3
  rw [hn] at ht hle
  have hcl : cur.toList.length = cap * 3 := by rw [← hs]; exact Array.length_toList
  refine ⟨hb, cur.toList.drop (l.length * 3), ?_, hle, hm, ?_⟩
  ·unfold Blk
   rw [← ht, List.take_append_drop]
   exact hh
  ·rw [List.length_drop, hcl]; omega
theorem pile_row {w : World} {base g cap : Nat} {l : List Ent} {rest : List Value} (h : PileAt w g cap l rest) (hb : base ≤ g) : w.ownsRow base 137 3 (.slice (some ⟨g, 0, none⟩) l.length cap) l.length (cellsOf l) := by
 have hl := cellsOf_length l
 refine ⟨hl, .inr ⟨g, cap, (cellsOf l ++ rest).toArray, rfl, hb, h.blk, h.le, h.max, ?_, ?_⟩⟩
 ·have := h.len; simp; omega
 ·simp [← hl]

structure Ag (w : World) (base b : Nat) (v o : Value) (l : List Ent) : Prop where
 blk : Blk w b 103 [v, o]
 row : w.ownsRow base 137 3 v l.length (cellsOf l)
 le : base ≤ b
 ne : v.ownBlock ≠ some b
def Foot (b : Nat) (v : Value) (k : Nat) : Prop := k = b ∨ some k = v.ownBlock
namespace Ag
variable {w w1 : World} {base b : Nat} {v o : Value} {l : List Ent} {S : Nat → Prop}
theorem chg (h : Ag w base b v o l) (hc : Chg w w1 S) (hn : ∀ k, Foot b v k → ¬ S k) : Ag w1 base b v o l := ⟨h.blk.chg hc (hn b (.inl rfl)), ownsRow_chg h.row hc (fun k hk => hn k (.inr hk.symm)), h.le, h.ne⟩
theorem below (h : Ag w base b v o l) (hb : Below w.heap.size w w1) : Ag w1 base b v o l := h.chg (Chg.of_below (S := fun _ => False) hb) (fun _ _ h => h)
theorem drewN (h : Ag w base b v o l) (n : Nat) : Ag (w.drewN n) base b v o l := ⟨h.blk, h.row, h.le, h.ne⟩
theorem alloc (h : Ag w base b v o l) (x : Obj) : Ag (w.alloc x) base b v o l := h.below ((Below.refl _ _).alloc (Nat.le_refl _) x)
theorem foot_lt (h : Ag w base b v o l) : ∀ k, Foot b v k → k < w.heap.size := by
 rintro k (rfl | hk)
 ·exact h.blk.lt
 ·exact (h.row.lt k hk.symm).2
theorem hp (h : Ag w base b v o l) (h0 : 0 < l.length) : ∃ g cap rest, v = .slice (some ⟨g, 0, none⟩) l.length cap ∧ base ≤ g ∧ Hp w b g cap l rest o := by
 obtain ⟨g, cap, rfl, hg, _⟩ := h.row.form h0
 obtain ⟨_, rest, hp⟩ := row_pile h.row rfl
 exact ⟨g, cap, rest, rfl, hg, h.blk, hp, fun e => h.ne (by simp [Value.ownBlock, e])⟩
end Ag
theorem Hp.ag {w : World} {base b g cap : Nat} {l : List Ent} {rest : List Value} {o : Value} (h : Hp w b g cap l rest o) (hb : base ≤ b) (hg : base ≤ g) : Ag w base b (.slice (some ⟨g, 0, none⟩) l.length cap) o l :=
 ⟨h.blk, pile_row h.pile hg, hb, by simpa [Value.ownBlock] using fun e => h.ne e.symm⟩

theorem hpush_any (base b : Nat) (v o : Value) (l : List Ent) (x : Ent) (hsm : l.length < 100000000000) (w : World) (h0 : Ag w base b v o l) (hh : HeapFrom l 0 l.length) :
  Calls Tryz.prog 88 #[.iface 140 (.pointer (some ⟨b, 0, none⟩)), .iface 137 (.agg #[.int .i64 x.tm, .int .i64 x.ord, .int .i64 x.wh])] w
   fun e w' => e = .returned (.tuple #[]) ∧ ∃ v' l', Ag w' base b v' o l' ∧ HeapFrom l' 0 l'.length ∧ l'.Perm (l ++ [x]) ∧ (v'.ownBlock = v.ownBlock ∨ ∃ k, v'.ownBlock = some k ∧ w.heap.size ≤ k) ∧ Chg w w' (Foot b v) := by
 have H0 := Lib.hid h0
 have HH := Lib.hid hh
 clear h0 hh
 have hmP := meth_Push
 go_enter Tryz.func88, Tryz.ntmps88
 go_wp2_with fail
 refine (push_any b v l x o base w w H0.out.blk H0.out.row H0.out.le H0.out.ne (by omega)).mono ?_
 rintro e w1 ⟨rfl, v1, hb1, hr1, hat, hc1⟩
 obtain ⟨g, cap, rfl, hg, _⟩ := hr1.form (Nat.succ_pos _)
 obtain ⟨_, rest, hp1⟩ := row_pile hr1 (by simp)
 have hne : b ≠ g := by
  rcases hat with hat | ⟨k, hat, hk⟩
  ·intro e; subst e; exact H0.out.ne (by rw [← hat]; rfl)
  ·have := H0.out.blk.lt
   simp [Value.ownBlock] at hat
   omega
 have h1 : Hp w1 b g cap (l ++ [x]) rest o := ⟨by simpa using hb1, hp1, hne⟩
 have hcell := h1.cell
 have hlen : (l ++ [x]).length = l.length + 1 := by simp
 rw [hlen] at hcell
 have hmL := meth_Len b (some ⟨g, 0, none⟩) (l.length + 1) cap w1 hcell
 have HL := Lib.hid hlen
 have H1 := Lib.hid h1
 have HC1 := Lib.hid hc1
 have HA := Lib.hid hat
 clear hb1 hr1 hp1 h1 hc1 hat hlen hcell
 go_wp2_with (go_at_call 130; refine (len_any _ _ _ _).mono ?_; rintro e w' ⟨rfl, rfl⟩)
 refine (up_any b g cap (l ++ [x]) rest o l.length (by simp) (by simp; omega) w1 H1.out (up_start x HH.out)).mono ?_
 rintro e w2 ⟨rfl, l', hperm, hheap, hp', hc'⟩
 have HF := Lib.hid (And.intro hperm (And.intro hheap (And.intro hp' hc')))
 clear hperm hheap hp' hc'
 go_wp2
 go_end0
 obtain ⟨hperm, hheap, hp', hc'⟩ := HF.out
 refine ⟨rfl, _, l', hp'.ag H0.out.le hg, hheap, hperm, ?_, HC1.out.trans hc' ?_⟩
 ·exact HA.out
 ·rintro i hi rfl
  rcases HA.out with hat | ⟨k, hat, hk⟩
  ·exact .inr (by rw [← hat]; rfl)
  ·simp [Value.ownBlock] at hat; omega

theorem less_b (b g cap : Nat) (l : List Ent) (rest : List Value) (o : Value) (x y : Int) (i j : Nat) (hx : x = i) (hy : y = j) (hi : i < l.length) (hj : j < l.length) (w : World) (h : Hp w b g cap l rest o) :
  Calls Tryz.prog 131 #[.slice (some ⟨g, 0, none⟩) l.length cap, .int .i64 x, .int .i64 y] w fun e w' => ∃ d : Bool, e = .returned (.bool d) ∧ Hid ((d = true ↔ ¬ (gE l j).le (gE l i)) ∧ Hp w' b g cap l rest o ∧ Below w.heap.size w w') ∧ (method 289 140 (.pointer (some ⟨b, 0, none⟩)) "Less").run Tryz.prog w' = .ok (131, .slice (some ⟨g, 0, none⟩) l.length cap) w' ∧ (method 289 140 (.pointer (some ⟨b, 0, none⟩)) "Swap").run Tryz.prog w' = .ok (132, .slice (some ⟨g, 0, none⟩) l.length cap) w' := by
 subst hx hy
 exact (less_any g cap l rest i j hi hj w h.pile).mono fun e w' ⟨he, hb⟩ => ⟨_, he, Lib.hid ⟨by rw [decide_eq_true_iff, cmpE_neg, gE_at hi, gE_at hj], h.below hb, hb⟩, meth_Less b _ _ _ w' (h.below hb).cell, meth_Swap b _ _ _ w' (h.below hb).cell⟩
theorem swap_b (b g cap : Nat) (l : List Ent) (rest : List Value) (o : Value) (x y : Int) (i j : Nat) (hx : x = i) (hy : y = j) (hi : i < l.length) (hj : j < l.length) (w : World) (h : Hp w b g cap l rest o) :
  Calls Tryz.prog 132 #[.slice (some ⟨g, 0, none⟩) l.length cap, .int .i64 x, .int .i64 y] w fun e w' => e = .returned (.tuple #[]) ∧ Hid (Hp w' b g cap (sw l i j) rest o ∧ Chg w w' (fun k => k = g)) := by
 subst hx hy
 exact (swap_any g cap l rest i j hi hj w h.pile).mono fun e w' ⟨he, hp, hc⟩ => ⟨he, Lib.hid ⟨h.turned (swapL_eq l i j hi hj ▸ hp) (sw_length _ _ _) hc, hc⟩⟩

def DownPost (w : World) (b g cap : Nat) (l0 : List Ent) (rest : List Value) (o : Value) (i0 n : Nat) (e : Ending) (w' : World) : Prop :=
 ∃ (d : Bool) (l : List Ent), e = .returned (.bool d) ∧ l.Perm l0 ∧ HeapFrom l i0 n ∧ (∀ k, n ≤ k → gE l k = gE l0 k) ∧ Hp w' b g cap l rest o ∧ Chg w w' (fun k => k = g)
set_option maxRecDepth 100000 in
set_option maxHeartbeats 2000000 in
theorem down_any (b g cap : Nat) (l0 : List Ent) (rest : List Value) (o : Value) (i0 n : Nat) (hn : n ≤ l0.length) (hi0 : i0 ≤ l0.length) (hsm : l0.length < 1000000000000) (w : World) (h0 : Hp w b g cap l0 rest o) (hd : HeapFrom l0 (i0 + 1) n) :
  Calls Tryz.prog 101 #[.iface 140 (.pointer (some ⟨b, 0, none⟩)), .int .i64 i0, .int .i64 n] w
   (DownPost w b g cap l0 rest o i0 n) := by
 have H0 := Lib.hid h0
 have HU := Lib.hid (down_start hd)
 clear h0 hd
 go_enter Tryz.func101, Tryz.ntmps101
 go_wp2
 go_loopw [7] (fun v wr => ∃ (i : Nat) (l : List Ent), v = .int .i64 i ∧ i0 ≤ i ∧ i ≤ l.length ∧ l.length = l0.length ∧ Hid (l.Perm l0 ∧ DownInv l i0 i n ∧ (∀ k, n ≤ k → gE l k = gE l0 k) ∧ Hp wr b g cap l rest o ∧ Chg w wr (fun k => k = g))) (fun v _ => n - (intOf v).toNat)
 case atStart => exact ⟨i0, l0, rfl, Nat.le_refl _, hi0, rfl, Lib.hid ⟨List.Perm.refl _, HU.out, fun _ _ => rfl, H0.out, Chg.refl _ _⟩⟩
 case round =>
  obtain ⟨i, l, rfl, hi, hil, hlen', HI⟩ := hrel
  have hlen := Nat.le_of_eq hlen'
  have hlen2 := Nat.le_of_eq hlen'.symm
  clear hlen'
  have hmL := meth_Less b (some ⟨g, 0, none⟩) l.length cap wr HI.out.2.2.2.1.cell
  have hmS := meth_Swap b (some ⟨g, 0, none⟩) l.length cap wr HI.out.2.2.2.1.cell
  by_cases hA : 2 * i + 1 < n
  ·by_cases hB : 2 * i + 2 < n
   ·go_wp2_with fail
    refine (less_b b g cap l rest o _ _ (2 * i + 2) (2 * i + 1) (by omega) (by omega) (by omega) (by omega) wr HI.out.2.2.2.1).mono ?_
    rintro e w1 ⟨d1, rfl, HL1, hmL1, hmS1⟩
    clear hmL hmS
    have hmL := hmL1
    have hmS := hmS1
    clear hmL1 hmS1
    have HL1' := HL1.out
    clear HL1
    cases d1
    ·have HM : Hid (∀ k, 0 < k → k < n → (k - 1) / 2 = i → (gE l (2 * i + 1)).le (gE l k)) := by
      refine Lib.hid fun k k0 k1 e => ?_
      have hle := Classical.not_not.1 (fun h => Bool.false_ne_true (HL1'.1.2 h))
      rcases (by omega : k = 2 * i + 1 ∨ k = 2 * i + 2) with rfl | rfl
      ·exact le_refl' _
      ·exact hle
     have HL1 := Lib.hid (And.intro trivial (And.intro HL1'.2.1 (Chg.of_below (S := fun k => k = g) HL1'.2.2)))
     clear HL1'
     go_wp2_with fail
     refine (less_b b g cap l rest o _ _ (2 * i + 1) i (by omega) rfl (by omega) (by omega) _ HL1.out.2.1).mono ?_
     rintro e w2 ⟨d2, rfl, HL2, hmL2, hmS2⟩
     cases d2
     ·go_wp2
      go_ret
      have hle := Classical.not_not.1 (fun h => by have h2 := HL2.out.1; first | exact Bool.false_ne_true (h2.2 h) | exact h2.2 h)
      exact ⟨_, l, rfl, HI.out.1, down_end HI.out.2.1 (fun k k0 k1 e => le_trans' hle (HM.out k k0 k1 e)), HI.out.2.2.1, HL2.out.2.1, (HI.out.2.2.2.2.trans HL1.out.2.2 (fun _ _ h => h)).trans (Chg.of_below (S := fun _ => False) HL2.out.2.2) (fun _ _ h => h.elim)⟩
     ·go_wp2_with fail
      refine (swap_b b g cap l rest o _ _ i (2 * i + 1) rfl (by omega) (by omega) (by omega) _ HL2.out.2.1).mono ?_
      rintro e w3 ⟨rfl, HS⟩
      go_wp2
      go_roundw
      case rel =>
       refine ⟨(2 * i + 1), sw l i ((2 * i + 1)), by congr 1, by omega, by rw [sw_length]; omega, by rw [sw_length]; omega, Lib.hid ⟨(sw_perm l i _ (by omega) (by omega)).trans HI.out.1, down_step (by omega) (by omega) (by omega) (by omega) hi HI.out.2.1 HM.out (by have h := HL2.out.1; first | exact h.1 rfl | exact h.1 trivial | simpa using h), ?_, HS.out.1, ((HI.out.2.2.2.2.trans HL1.out.2.2 (fun _ _ h => h)).trans (Chg.of_below (S := fun _ => False) HL2.out.2.2) (fun _ _ h => h.elim)).trans HS.out.2 (fun _ _ h => h)⟩⟩
       intro k hk
       rw [gE_sw l i _ k (by omega) (by omega), if_neg (by omega), if_neg (by omega)]
       exact HI.out.2.2.1 k hk
      case measure => simp [intOf]; omega
    ·have HM : Hid (∀ k, 0 < k → k < n → (k - 1) / 2 = i → (gE l (2 * i + 2)).le (gE l k)) := by
      refine Lib.hid fun k k0 k1 e => ?_
      have hle := le_total' (HL1'.1.1 rfl)
      rcases (by omega : k = 2 * i + 1 ∨ k = 2 * i + 2) with rfl | rfl
      ·exact hle
      ·exact le_refl' _
     have HL1 := Lib.hid (And.intro trivial (And.intro HL1'.2.1 (Chg.of_below (S := fun k => k = g) HL1'.2.2)))
     clear HL1'
     go_wp2_with fail
     refine (less_b b g cap l rest o _ _ (2 * i + 2) i (by omega) rfl (by omega) (by omega) _ HL1.out.2.1).mono ?_
     rintro e w2 ⟨d2, rfl, HL2, hmL2, hmS2⟩
     cases d2
     ·go_wp2
      go_ret
      have hle := Classical.not_not.1 (fun h => by have h2 := HL2.out.1; first | exact Bool.false_ne_true (h2.2 h) | exact h2.2 h)
      exact ⟨_, l, rfl, HI.out.1, down_end HI.out.2.1 (fun k k0 k1 e => le_trans' hle (HM.out k k0 k1 e)), HI.out.2.2.1, HL2.out.2.1, (HI.out.2.2.2.2.trans HL1.out.2.2 (fun _ _ h => h)).trans (Chg.of_below (S := fun _ => False) HL2.out.2.2) (fun _ _ h => h.elim)⟩
     ·go_wp2_with fail
      refine (swap_b b g cap l rest o _ _ i (2 * i + 2) rfl (by omega) (by omega) (by omega) _ HL2.out.2.1).mono ?_
      rintro e w3 ⟨rfl, HS⟩
      go_wp2
      go_roundw
      case rel =>
       refine ⟨(2 * i + 2), sw l i ((2 * i + 2)), by congr 1, by omega, by rw [sw_length]; omega, by rw [sw_length]; omega, Lib.hid ⟨(sw_perm l i _ (by omega) (by omega)).trans HI.out.1, down_step (by omega) (by omega) (by omega) (by omega) hi HI.out.2.1 HM.out (by have h := HL2.out.1; first | exact h.1 rfl | exact h.1 trivial | simpa using h), ?_, HS.out.1, ((HI.out.2.2.2.2.trans HL1.out.2.2 (fun _ _ h => h)).trans (Chg.of_below (S := fun _ => False) HL2.out.2.2) (fun _ _ h => h.elim)).trans HS.out.2 (fun _ _ h => h)⟩⟩
       intro k hk
       rw [gE_sw l i _ k (by omega) (by omega), if_neg (by omega), if_neg (by omega)]
       exact HI.out.2.2.1 k hk
      case measure => simp [intOf]; omega
   ·have HM : Hid (∀ k, 0 < k → k < n → (k - 1) / 2 = i → (gE l (2 * i + 1)).le (gE l k)) := by
     refine Lib.hid fun k k0 k1 e => ?_
     obtain rfl : k = 2 * i + 1 := by omega
     exact le_refl' _
    have HL1 := Lib.hid (And.intro trivial (And.intro HI.out.2.2.2.1 (Chg.refl wr (fun k => k = g))))
    go_wp2_with fail
    refine (less_b b g cap l rest o _ _ (2 * i + 1) i (by omega) rfl (by omega) (by omega) _ HL1.out.2.1).mono ?_
    rintro e w2 ⟨d2, rfl, HL2, hmL2, hmS2⟩
    cases d2
    ·go_wp2
     go_ret
     have hle := Classical.not_not.1 (fun h => by have h2 := HL2.out.1; first | exact Bool.false_ne_true (h2.2 h) | exact h2.2 h)
     exact ⟨_, l, rfl, HI.out.1, down_end HI.out.2.1 (fun k k0 k1 e => le_trans' hle (HM.out k k0 k1 e)), HI.out.2.2.1, HL2.out.2.1, (HI.out.2.2.2.2.trans HL1.out.2.2 (fun _ _ h => h)).trans (Chg.of_below (S := fun _ => False) HL2.out.2.2) (fun _ _ h => h.elim)⟩
    ·go_wp2_with fail
     refine (swap_b b g cap l rest o _ _ i (2 * i + 1) rfl (by omega) (by omega) (by omega) _ HL2.out.2.1).mono ?_
     rintro e w3 ⟨rfl, HS⟩
     go_wp2
     go_roundw
     case rel =>
      refine ⟨(2 * i + 1), sw l i ((2 * i + 1)), by congr 1, by omega, by rw [sw_length]; omega, by rw [sw_length]; omega, Lib.hid ⟨(sw_perm l i _ (by omega) (by omega)).trans HI.out.1, down_step (by omega) (by omega) (by omega) (by omega) hi HI.out.2.1 HM.out (by have h := HL2.out.1; first | exact h.1 rfl | exact h.1 trivial | simpa using h), ?_, HS.out.1, ((HI.out.2.2.2.2.trans HL1.out.2.2 (fun _ _ h => h)).trans (Chg.of_below (S := fun _ => False) HL2.out.2.2) (fun _ _ h => h.elim)).trans HS.out.2 (fun _ _ h => h)⟩⟩
      intro k hk
      rw [gE_sw l i _ k (by omega) (by omega), if_neg (by omega), if_neg (by omega)]
      exact HI.out.2.2.1 k hk
     case measure => simp [intOf]; omega
  ·go_wp2
   go_ret
   exact ⟨_, l, rfl, HI.out.1, down_end HI.out.2.1 (fun k k0 k1 e => by omega), HI.out.2.2.1, HI.out.2.2.2.1, HI.out.2.2.2.2⟩
set_option maxRecDepth 100000
set_option linter.unusedSimpArgs false

def PopPost (w : World) (base b : Nat) (v o : Value) (l : List Ent) (e : Ending) (w' : World) : Prop :=
 ∃ (x : Ent) (v' : Value) (l' : List Ent), e = .returned (.iface 137 (.agg #[.int .i64 x.tm, .int .i64 x.ord, .int .i64 x.wh])) ∧ x = gE l 0 ∧ Ag w' base b v' o l' ∧ HeapFrom l' 0 l'.length ∧ (l' ++ [x]).Perm l ∧ v'.ownBlock = v.ownBlock ∧ Chg w w' (Foot b v)

theorem list_last {l : List Ent} {n : Nat} (h : l.length = n + 1) : l = l.take n ++ [gE l n] := by
 rw [gE_at (by omega), List.take_append_getElem (by omega), List.take_of_length_le (by omega)]

set_option maxHeartbeats 1000000 in
theorem hpop_any (base b : Nat) (v o : Value) (l : List Ent) (h0 : 0 < l.length) (hsm : l.length < 100000000000) (w : World) (ha : Ag w base b v o l) (hh : HeapFrom l 0 l.length) :
  Calls Tryz.prog 92 #[.iface 140 (.pointer (some ⟨b, 0, none⟩))] w (PopPost w base b v o l) := by
 have HA := Lib.hid ha
 have HH := Lib.hid hh
 obtain ⟨g, cap, rest, rfl, hg, hp⟩ := ha.hp h0
 have HP := Lib.hid hp
 have hcell := hp.cell
 have hmL := meth_Len b (some ⟨g, 0, none⟩) l.length cap w hcell
 have hmS := meth_Swap b (some ⟨g, 0, none⟩) l.length cap w hcell
 have hmP := meth_Pop
 clear ha hh hp hcell
 go_enter Tryz.func92, Tryz.ntmps92
 go_wp2_with fail
 refine (len_any _ _ _ _).mono ?_
 rintro e w' ⟨rfl, rfl⟩
 go_wp2_with fail
 refine (swap_b b g cap l rest o _ _ 0 (l.length - 1) rfl (by omega) (by omega) (by omega) w HP.out).mono ?_
 rintro e w1 ⟨rfl, HS⟩
 clear hmL hmS
 go_wp2_with fail
 rw [show ((l.length : Int) - 1) = ((l.length - 1 : Nat) : Int) by omega]
 refine (down_any b g cap (sw l 0 (l.length - 1)) rest o 0 (l.length - 1) (by rw [sw_length]; omega) (Nat.zero_le _) (by rw [sw_length]; omega) w1 HS.out.1 ?_).mono ?_
 ·intro k k0 k1 hk
  rw [gE_sw l _ _ _ (by omega) (by omega), gE_sw l _ _ _ (by omega) (by omega), if_neg (by omega), if_neg (by omega), if_neg (by omega), if_neg (by omega)]
  exact HH.out k k0 (by omega) (by omega)
 rintro e w2 ⟨d, l2, rfl, hperm, hheap, hout, hp2, hc2⟩
 have hlen2 : l2.length = (l.length - 1) + 1 := by rw [hperm.length_eq, sw_length]; omega
 have hx : gE l2 (l.length - 1) = gE l 0 := by rw [hout _ (Nat.le_refl _), gE_sw l _ _ _ (by omega) (by omega), if_pos rfl]
 have hsplit := list_last hlen2
 rw [hx] at hsplit
 have hlt : (l2.take (l.length - 1)).length = l.length - 1 := by rw [List.length_take]; omega
 have hg2 : ∀ k, k < l.length - 1 → gE (l2.take (l.length - 1)) k = gE l2 k := fun k hk => by simp [gE, List.getD_eq_getElem?_getD, List.getElem?_take, hk]
 generalize l2.take (l.length - 1) = l3 at *
 have hb2 := hp2.blk
 have hpl2 := hp2.pile
 rw [hlen2, ← hlt] at hb2
 rw [hsplit] at hpl2
 have HR := Lib.hid (And.intro hperm (And.intro hheap (And.intro hp2 (And.intro hc2 (And.intro hlen2 (And.intro hsplit (And.intro hlt hg2)))))))
 have HB2 := Lib.hid hb2
 have HP2 := Lib.hid hpl2
 clear hperm hheap hout hp2 hc2 hlen2 hx hsplit hlt hg2 hb2 hpl2
 go_wp2_with fail
 refine (pop_any b g cap l3 (gE l 0) rest o w2 HB2.out HP2.out HP.out.ne).mono ?_
 rintro e w3 ⟨rfl, hb3, hp3, hc3⟩
 have H3 := Lib.hid (And.intro hb3 (And.intro hp3 hc3))
 clear hb3 hp3 hc3
 go_wp2
 go_ret
 obtain ⟨hperm, hheap, hp2, hc2, hlen2, hsplit, hlt, hg2⟩ := HR.out
 obtain ⟨hb3, hp3, hc3⟩ := H3.out
 refine ⟨gE l 0, _, l3, rfl, rfl, (Hp.mk hb3 hp3 HP.out.ne).ag HA.out.le hg, ?_, ?_, rfl, ?_⟩
 ·intro k k0 k1 hk
  rw [hg2 k (by omega), hg2 _ (by omega)]
  exact hheap k k0 (by omega) hk
 ·rw [← hsplit]
  exact hperm.trans (sw_perm l _ _ (by omega) (by omega))
 ·refine ((HS.out.2.mono (fun k _ hk => .inr ?_)).trans hc2 (fun i _ h => .inr ?_)).trans hc3 (fun i _ h => .inl h)
  ·rw [hk]; rfl
  ·rw [h]; rfl

theorem Ag.form {w : World} {base b : Nat} {v o : Value} {l : List Ent} (h : Ag w base b v o l) : ∃ A c, v = .slice A l.length c := by
 rcases h.row.2 with ⟨rfl, h2⟩ | ⟨g, cap, cur, rfl, _⟩
 ·exact ⟨none, 0, by rw [h2]⟩
 ·exact ⟨_, _, rfl⟩
def InitPost (w : World) (base b : Nat) (v o : Value) (l : List Ent) (e : Ending) (w' : World) : Prop :=
 ∃ l' : List Ent, e = .returned (.tuple #[]) ∧ Ag w' base b v o l' ∧ HeapFrom l' 0 l'.length ∧ l'.Perm l ∧ Chg w w' (Foot b v)
set_option maxHeartbeats 1000000 in
theorem hinit_any (base b : Nat) (v o : Value) (l : List Ent) (hsm : l.length < 100000000000) (w : World) (ha : Ag w base b v o l) :
  Calls Tryz.prog 87 #[.iface 140 (.pointer (some ⟨b, 0, none⟩))] w (InitPost w base b v o l) := by
 have HA := Lib.hid ha
 obtain ⟨A, c, hv⟩ := ha.form
 subst hv
 have hcell := ha.blk.cell 0 _ rfl
 have hmL := meth_Len b A l.length c w hcell
 clear ha hcell
 go_enter Tryz.func87, Tryz.ntmps87
 go_wp2_with fail
 refine (len_any _ _ _ _).mono ?_
 rintro e w' ⟨rfl, rfl⟩
 clear hmL
 go_wp2
 go_loopw [3] (fun x wr => ∃ (k : Nat) (l' : List Ent), x = .int .i64 ((k : Int) - 1) ∧ k ≤ l.length ∧ l'.length ≤ l.length ∧ l.length ≤ l'.length ∧ Hid (l'.Perm l ∧ HeapFrom l' k l.length ∧ Ag wr base b (.slice A l.length c) o l' ∧ Chg w wr (Foot b (.slice A l.length c)))) (fun x _ => (intOf x + 1).toNat)
 case atStart =>
  refine ⟨l.length / 2, l, by congr 1, by omega, Nat.le_refl _, Nat.le_refl _, Lib.hid ⟨List.Perm.refl _, ?_, HA.out, Chg.refl _ _⟩⟩
  intro k k0 k1 hk
  omega
 case round =>
  obtain ⟨k, l', rfl, hk, hl1, hl2, HI⟩ := hrel
  by_cases hz : k = 0
  ·subst hz
   go_wp2
   go_end0
   have hll : l'.length = l.length := by omega
   exact ⟨l', rfl, HI.out.2.2.1, by rw [hll]; exact HI.out.2.1, HI.out.1, HI.out.2.2.2⟩
  ·have hll := Lib.hid (show l'.length = l.length by omega)
   obtain ⟨g, cap, rest, hv, hg, hp⟩ := HI.out.2.2.1.hp (by omega)
   have HV := Lib.hid (And.intro hv (And.intro hg hp))
   clear hv hg hp
   go_wp2_with fail
   rw [show ((k : Int) - 1) = ((k - 1 : Nat) : Int) by omega]
   refine (down_any b g cap l' rest o (k - 1) l.length (by omega) (by omega) (by omega) wr HV.out.2.2 ?_).mono ?_
   ·rw [show k - 1 + 1 = k by omega]
    exact HI.out.2.1
   rintro e w2 ⟨d, l2, rfl, hperm, hheap, hout, hp2, hc2⟩
   have HR := Lib.hid (And.intro hperm (And.intro hheap (And.intro hp2 hc2)))
   clear hperm hheap hout hp2 hc2
   go_wp2
   go_roundw
   case rel =>
    obtain ⟨hperm, hheap, hp2, hc2⟩ := HR.out
    obtain ⟨hv, hg, hp⟩ := HV.out
    have e2 : l2.length = l.length := by rw [hperm.length_eq]; exact hll.out
    refine ⟨k - 1, l2, by congr 1, by omega, by omega, by omega, Lib.hid ⟨hperm.trans HI.out.1, hheap, ?_, HI.out.2.2.2.trans hc2 ?_⟩⟩
    ·have := hp2.ag HA.out.le hg
     rw [e2, ← hll.out, ← hv] at this
     exact this
    ·rintro i hi rfl
     exact .inr (by rw [hv]; rfl)
   case measure => simp [intOf]; omega
set_option maxRecDepth 100000
set_option linter.unusedSimpArgs false

def Ent.bef (a b : Ent) : Prop := a.tm < b.tm ∨ (a.tm = b.tm ∧ a.ord < b.ord)
def insE (x : Ent) : List Ent → List Ent
 | [] => [x]
 | y :: m => if y.tm ≤ x.tm then y :: insE x m else x :: y :: m
theorem insE_perm (x : Ent) (m : List Ent) : (insE x m).Perm (m ++ [x]) := by
 induction m with
 | nil => exact List.Perm.refl _
 | cons y m ih =>
  unfold insE
  split
  ·exact ih.cons y
  ·exact (List.perm_append_singleton x (y :: m)).symm
def Srt (m : List Ent) (ord : Int) : Prop := m.Pairwise Ent.bef ∧ ∀ e ∈ m, e.ord < ord
theorem insE_mem {x y : Ent} {m : List Ent} (h : y ∈ insE x m) : y = x ∨ y ∈ m := by
 have := (insE_perm x m).mem_iff.1 h
 rw [List.mem_append, List.mem_singleton] at this
 exact this.symm
theorem insE_srt {m : List Ent} {ord : Int} (tm wh : Int) (h : Srt m ord) : Srt (insE ⟨tm, ord, wh⟩ m) (ord + 1) := by
 obtain ⟨h1, h2⟩ := h
 refine ⟨?_, fun e he => ?_⟩
 ·induction m with
  | nil => exact List.pairwise_singleton _ _
  | cons y m ih =>
   rw [List.pairwise_cons] at h1
   have hy := h2 y List.mem_cons_self
   unfold insE
   split
   ·rename_i hle
    rw [List.pairwise_cons]
    refine ⟨fun z hz => ?_, ih h1.2 (fun e he => h2 e (List.mem_cons_of_mem _ he))⟩
    rcases insE_mem hz with rfl | hz
    ·unfold Ent.bef
     simp only at *
     omega
    ·exact h1.1 z hz
   ·rename_i hle
    rw [List.pairwise_cons]
    refine ⟨fun z hz => ?_, List.pairwise_cons.2 h1⟩
    have hb : y.tm ≤ z.tm := by
     rcases List.mem_cons.1 hz with rfl | hz
     ·exact Int.le_refl _
     ·have := h1.1 z hz; unfold Ent.bef at this; omega
    unfold Ent.bef
    simp only at *
    omega
 ·rcases insE_mem he with rfl | he
  ·simp only; omega
  ·have := h2 e he; omega
theorem srt_tail {x : Ent} {m : List Ent} {a : Int} (h : Srt (x :: m) a) : Srt m a := ⟨(List.pairwise_cons.1 h.1).2, fun e he => h.2 e (List.mem_cons_of_mem _ he)⟩
theorem srt_filter {m : List Ent} {a : Int} (p : Ent → Bool) (h : Srt m a) : Srt (m.filter p) a := ⟨h.1.filter _, fun e he => h.2 e (List.mem_filter.1 he).1⟩
theorem root_first {l m : List Ent} {x : Ent} {a : Int} (hh : HeapFrom l 0 l.length) (hp : l.Perm (x :: m)) (hs : Srt (x :: m) a) : gE l 0 = x := by
 have hl : 0 < l.length := by rw [hp.length_eq]; simp
 have hx : x ∈ l := hp.mem_iff.2 List.mem_cons_self
 obtain ⟨k, hk, e⟩ := List.getElem_of_mem hx
 have h1 := heap_min hh k hk
 rw [gE_at hk, e] at h1
 have h2 : gE l 0 ∈ x :: m := hp.mem_iff.1 (by rw [gE_at hl]; exact List.getElem_mem _)
 rcases List.mem_cons.1 h2 with h2 | h2
 ·exact h2
 ·have := (List.pairwise_cons.1 hs.1).1 _ h2
  unfold Ent.bef at this
  unfold Ent.le at h1
  omega

structure AgS (w : World) (base b : Nat) (v : Value) (m : List Ent) (ord : Int) : Prop where
 ag : ∃ l, Ag w base b v (.int .i64 ord) l ∧ HeapFrom l 0 l.length ∧ l.Perm m
 srt : Srt m ord
 pos : 0 ≤ ord
namespace AgS
variable {w w1 : World} {base b : Nat} {v : Value} {m : List Ent} {ord : Int} {S : Nat → Prop}
theorem chg (h : AgS w base b v m ord) (hc : Chg w w1 S) (hn : ∀ k, Foot b v k → ¬ S k) : AgS w1 base b v m ord := by
 obtain ⟨⟨l, h1, h2⟩, h3, h4⟩ := h
 exact ⟨⟨l, h1.chg hc hn, h2⟩, h3, h4⟩
theorem below (h : AgS w base b v m ord) (hb : Below w.heap.size w w1) : AgS w1 base b v m ord := h.chg (Chg.of_below (S := fun _ => False) hb) (fun _ _ h => h)
theorem foot_lt (h : AgS w base b v m ord) : ∀ k, Foot b v k → k < w.heap.size := by obtain ⟨⟨l, h1, _⟩, _⟩ := h; exact h1.foot_lt
theorem blk (h : AgS w base b v m ord) : Blk w b 103 [v, .int .i64 ord] := by obtain ⟨⟨l, h1, _⟩, _⟩ := h; exact h1.blk
theorem form (h : AgS w base b v m ord) : ∃ A c, v = .slice A m.length c := by
 obtain ⟨⟨l, h1, _, h2⟩, _⟩ := h
 rw [← h2.length_eq]
 exact h1.form
end AgS

theorem new_any (w : World) : Calls Tryz.prog 23 #[] w fun e w' => e = .returned (.pointer (some ⟨w.heap.size, 0, none⟩)) ∧ AgS w' w.heap.size w.heap.size (.slice none 0 0) [] 0 ∧ Below w.heap.size w w' := by
 go_enter Tryz.func23, Tryz.ntmps23
 go_wp2
 go_ret
 refine ⟨rfl, ⟨⟨[], ⟨Blk.new w _ _, World.ownsRow_nil _ _ _ _, Nat.le_refl _, by simp [Value.ownBlock]⟩, fun k k0 k1 _ => absurd k1 (Nat.not_lt_zero _), List.Perm.refl _⟩, ⟨List.Pairwise.nil, fun e he => by cases he⟩, Int.le_refl _⟩, (Below.refl _ _).alloc (Nat.le_refl _) _⟩


def AddPost (w : World) (base b : Nat) (v : Value) (m : List Ent) (ord tm wh : Int) (e : Ending) (w' : World) : Prop :=
 ∃ v', e = .returned (.tuple #[]) ∧ AgS w' base b v' (insE ⟨tm, ord, wh⟩ m) (ord + 1) ∧ (v'.ownBlock = v.ownBlock ∨ ∃ k, v'.ownBlock = some k ∧ w.heap.size ≤ k) ∧ Chg w w' (Foot b v)
set_option maxHeartbeats 1000000 in
theorem add_any (base b : Nat) (v : Value) (m : List Ent) (ord tm wh : Int) (hsm : m.length < 100000000) (ho : ord < 100000000000) (w : World) (h : AgS w base b v m ord) :
  Calls Tryz.prog 57 #[.pointer (some ⟨b, 0, none⟩), .int .i64 tm, .int .i64 wh] w (AddPost w base b v m ord tm wh) := by
 have HS := Lib.hid h.srt
 have h0 := h.pos
 obtain ⟨⟨l, ha, hh, hp⟩, _, _⟩ := h
 have hlm := hp.length_eq
 have hll : l.length < 100000000000 := by omega
 have HA := Lib.hid (And.intro ha (And.intro hh hp))
 have hc := ha.blk.cell 0 _ rfl
 have hc1 := ha.blk.cell 1 _ rfl
 clear ha hh hp hlm
 go_enter Tryz.func57, Tryz.ntmps57
 go_wp2
 go_still_tail 12, (by kernel_rfl)
 go_wp2_with fail
 refine (hpush_any base b v (.int .i64 ord) l ⟨tm, ord, wh⟩ hll _ (HA.out.1.drewN 1) HA.out.2.1).mono ?_
 rintro e w1 ⟨rfl, v', l', ha1, hh1, hp1, hat, hch⟩
 have hc2 := ha1.blk.cell 1 _ rfl
 have hf2 := ha1.blk.free
 have HR := Lib.hid (And.intro ha1 (And.intro hh1 (And.intro hp1 (And.intro hat hch))))
 clear ha1 hh1 hp1 hat hch hc hc1
 go_wp2
 go_end0
 obtain ⟨ha1, hh1, hp1, hat, hch⟩ := HR.out
 refine ⟨v', rfl, ⟨⟨l', ⟨?_, ?_, ha1.le, ha1.ne⟩, hh1, ?_⟩, insE_srt tm wh HS.out, by omega⟩, hat, ?_⟩
 ·exact ha1.blk.set 1 _ (by simp)
 ·exact ownsRow_set ha1.row ⟨b, 1, none⟩ _ ha1.ne
 ·exact hp1.trans ((HA.out.2.2.append_right _).trans (insE_perm _ _).symm)
 ·have h1 : Chg w w1 (Foot b v) := ⟨hch.os, hch.tape, hch.output, hch.size, hch.block⟩
  exact h1.setCell ⟨b, 1, none⟩ _ (fun _ => .inl rfl)

theorem next_none (base b : Nat) (v : Value) (ord : Int) (w : World) (h : AgS w base b v [] ord) :
  Calls Tryz.prog 91 #[.pointer (some ⟨b, 0, none⟩)] w fun e w' => e = .returned (.tuple #[.int .i64 0, .int .i64 0, .bool false]) ∧ ∃ n, w' = w.drewN n := by
 obtain ⟨A, c, rfl⟩ := h.form
 have hc := h.blk.cell 0 _ rfl
 clear h
 simp only [List.length_nil] at hc
 go_enter Tryz.func91, Tryz.ntmps91
 go_wp2
 go_ret3
 exact ⟨rfl, 0, rfl⟩
theorem next_some (base b : Nat) (v : Value) (x : Ent) (m : List Ent) (ord : Int) (w : World) (h : AgS w base b v (x :: m) ord) :
  Calls Tryz.prog 91 #[.pointer (some ⟨b, 0, none⟩)] w fun e w' => e = .returned (.tuple #[.int .i64 x.tm, .int .i64 x.wh, .bool true]) ∧ ∃ n, w' = w.drewN n := by
 obtain ⟨⟨l, ha, hh, hp⟩, hs, _⟩ := h
 have hr := root_first hh hp hs
 have hl : 0 < l.length := by rw [hp.length_eq]; simp
 obtain ⟨g, cap, rest, rfl, hg, hp2⟩ := ha.hp hl
 obtain ⟨p0, p1, p2⟩ := hp2.pile.cells 0 hl
 rw [gE_at hl] at hr
 rw [hr] at p0 p1 p2
 have hc := hp2.cell
 have hl' : (0 : Int) < (l.length : Int) := by omega
 have hne : ((l.length : Int) == 0) = false := by rw [beq_eq_false_iff_ne]; omega
 simp only [Nat.zero_mul, Nat.zero_add] at p0 p1 p2
 clear ha hh hp hs hr hg hp2
 go_enter Tryz.func91, Tryz.ntmps91
 go_wp2
 go_quiet (fail)
 go_wp2
 go_ret3
 exact ⟨rfl, _, rfl⟩

theorem due_none (base b : Nat) (v : Value) (ord now : Int) (w : World) (h : AgS w base b v [] ord) :
  Calls Tryz.prog 63 #[.pointer (some ⟨b, 0, none⟩), .int .i64 now] w fun e w' => e = .returned (.tuple #[.int .i64 0, .bool false]) ∧ ∃ n, w' = w.drewN n := by
 have H := Lib.hid h
 clear h
 go_enter Tryz.func63, Tryz.ntmps63
 go_wp2_with fail
 refine (next_none base b v ord w H.out).mono ?_
 rintro e w1 ⟨rfl, n, rfl⟩
 go_wp2
 go_ret2
 exact ⟨rfl, _, rfl⟩
theorem due_early (base b : Nat) (v : Value) (x : Ent) (m : List Ent) (ord now : Int) (hn : now < x.tm) (w : World) (h : AgS w base b v (x :: m) ord) :
  Calls Tryz.prog 63 #[.pointer (some ⟨b, 0, none⟩), .int .i64 now] w fun e w' => e = .returned (.tuple #[.int .i64 0, .bool false]) ∧ ∃ n, w' = w.drewN n := by
 have H := Lib.hid h
 clear h
 go_enter Tryz.func63, Tryz.ntmps63
 go_wp2_with fail
 refine (next_some base b v x m ord w H.out).mono ?_
 rintro e w1 ⟨rfl, n, rfl⟩
 go_wp2
 go_ret2
 exact ⟨rfl, _, rfl⟩
def DuePost (w : World) (base b : Nat) (v : Value) (x : Ent) (m : List Ent) (ord : Int) (e : Ending) (w' : World) : Prop :=
 ∃ v', e = .returned (.tuple #[.int .i64 x.wh, .bool true]) ∧ AgS w' base b v' m ord ∧ v'.ownBlock = v.ownBlock ∧ Chg w w' (Foot b v)
theorem run_field2 (x y z : Value) (w : World) : (Instr.field 137 (.agg #[x, y, z]) 2).run Tryz.prog w = .ok z w := by kernel_rfl
set_option maxHeartbeats 1000000 in
theorem due_yes (base b : Nat) (v : Value) (x : Ent) (m : List Ent) (ord now : Int) (hsm : m.length < 10000000000) (hn : x.tm ≤ now) (w : World) (h : AgS w base b v (x :: m) ord) :
  Calls Tryz.prog 63 #[.pointer (some ⟨b, 0, none⟩), .int .i64 now] w (DuePost w base b v x m ord) := by
 have H := Lib.hid h
 clear h
 have hta := run_assert
 have hfi := run_field2
 go_enter Tryz.func63, Tryz.ntmps63
 go_wp2_with fail
 refine (next_some base b v x m ord w H.out).mono ?_
 rintro e w1 ⟨rfl, n, rfl⟩
 obtain ⟨⟨l, ha, hh, hp⟩, hs, hpos⟩ := H.out
 have hr := root_first hh hp hs
 have hlen := hp.length_eq
 have H2 := Lib.hid (And.intro ha (And.intro hh (And.intro hp (And.intro hs (And.intro hpos (And.intro hr hlen))))))
 clear ha hh hp hs hpos hr hlen
 go_wp2_with fail
 refine (hpop_any base b v (.int .i64 ord) l (by rw [H2.out.2.2.2.2.2.2]; simp) (by rw [H2.out.2.2.2.2.2.2]; simp; omega) _ (H2.out.1.drewN n) H2.out.2.1).mono ?_
 rintro e w2 ⟨y, v', l', rfl, hy, ha', hh', hp', hvv, hc⟩
 have HR := Lib.hid (And.intro hy (And.intro ha' (And.intro hh' (And.intro hp' (And.intro hvv hc)))))
 clear hy ha' hh' hp' hvv hc
 go_wp2
 go_ret2
 obtain ⟨hy, ha', hh', hp', hvv, hc⟩ := HR.out
 obtain ⟨ha, hh, hp, hs, hpos, hr, hlen⟩ := H2.out
 rw [hr] at hy
 subst hy
 refine ⟨v', rfl, ⟨⟨l', ha', hh', ?_⟩, srt_tail hs, hpos⟩, hvv, ⟨hc.os, hc.tape, hc.output, hc.size, hc.block⟩⟩
 have h3 : (y :: l').Perm (y :: m) := (List.perm_append_singleton y l').symm.trans (hp'.trans hp)
 exact (List.perm_cons y).1 h3
set_option maxRecDepth 100000
set_option linter.unusedSimpArgs false

theorem is_any (x : Ent) (what : Int) (B : Nat) (w : World) (hB : w.cell? ⟨B, 0, none⟩ = some (.int .i64 what)) :
  Calls Tryz.prog 86 #[.agg #[.int .i64 x.tm, .int .i64 x.ord, .int .i64 x.wh], .pointer (some ⟨B, 0, none⟩)] w fun e w' => e = .returned (.bool (x.wh == what)) ∧ w' = w.alloc (.cells x.cells.toArray 137) := by
 have hlt : B < w.heap.size := World.block_lt_of_cell? w _ hB
 go_enter Tryz.func86, Tryz.ntmps86
 go_wp2
 go_ret
 exact ⟨rfl, rfl⟩

def IdxPost (w : World) (what : Int) (l : List Ent) (e : Ending) (w' : World) : Prop :=
 Below w.heap.size w w' ∧ ((e = .returned (.int .i64 (-1)) ∧ ∀ x ∈ l, x.wh ≠ what) ∨ ∃ k, e = .returned (.int .i64 (k : Nat)) ∧ k < l.length ∧ (gE l k).wh = what ∧ ∀ j, j < k → (gE l j).wh ≠ what)
set_option maxHeartbeats 1000000 in
theorem indexFunc_any (g cap : Nat) (l : List Ent) (rest : List Value) (what : Int) (B : Nat) (hsm : l.length < 100000000000) (w : World) (hB : w.cell? ⟨B, 0, none⟩ = some (.int .i64 what)) (h : PileAt w g cap l rest) :
  Calls Tryz.prog 100 #[.slice (some ⟨g, 0, none⟩) l.length cap, .func (.func 86) #[] #[.pointer (some ⟨B, 0, none⟩)]] w (IdxPost w what l) := by
 have H := Lib.hid h
 have HB := Lib.hid hB
 clear h hB
 go_enter Tryz.func100, Tryz.ntmps100
 go_wp2
 go_loopw [8] (fun v wr => ∃ k : Nat, v = .int .i64 k ∧ k ≤ l.length ∧ Hid (Below w.heap.size w wr ∧ ∀ j, j < k → (gE l j).wh ≠ what)) (fun v _ => l.length - (intOf v).toNat)
 case atStart => exact ⟨0, rfl, Nat.zero_le _, Lib.hid ⟨Below.refl _ _, fun j hj => absurd hj (Nat.not_lt_zero _)⟩⟩
 case round =>
  obtain ⟨k, rfl, hk, HI⟩ := hrel
  by_cases hlt : k < l.length
  ·obtain ⟨p0, p1, p2⟩ := (H.out.below HI.out.1).cells k hlt
   have hx := gE_at hlt
   generalize l[k] = x at *
   have HX := Lib.hid hx
   clear hx
   go_wp2_with fail
   refine (is_any x what B wr ((HI.out.1.cell (World.block_lt_of_cell? w _ HB.out)).trans HB.out)).mono ?_
   rintro e w1 ⟨rfl, rfl⟩
   have hb1 := Lib.hid (HI.out.1.alloc HI.out.1.size (.cells x.cells.toArray 137))
   generalize wr.alloc (.cells x.cells.toArray 137) = w1 at *
   clear p0 p1 p2
   by_cases hw : x.wh = what
   ·have hwb : (x.wh == what) = true := beq_iff_eq.2 hw
    have HW := Lib.hid hw
    clear hw
    go_wp2
    go_ret
    exact ⟨hb1.out, .inr ⟨k, rfl, hlt, by rw [HX.out]; exact HW.out, HI.out.2⟩⟩
   ·have hwb : (x.wh == what) = false := beq_eq_false_iff_ne.2 hw
    have HW := Lib.hid hw
    clear hw
    go_wp2
    go_roundw
    case rel =>
     refine ⟨k + 1, by go_num, by omega, Lib.hid ⟨hb1.out, fun j hj => ?_⟩⟩
     by_cases e : j = k
     ·rw [e, HX.out]; exact HW.out
     ·exact HI.out.2 j (by omega)
    case measure => simp [intOf]; omega
  ·go_wp2
   go_ret
   refine ⟨HI.out.1, .inl ⟨rfl, fun x hx => ?_⟩⟩
   obtain ⟨j, hj, rfl⟩ := List.getElem_of_mem hx
   rw [← gE_at hj]
   exact HI.out.2 j (by omega)

def keepW (what : Int) (l : List Ent) : List Ent := l.filter (fun x => x.wh != what)
structure DelInv (l L : List Ent) (what : Int) (i j : Nat) : Prop where
 len : L.length = l.length
 ij : i < j
 jl : j ≤ l.length
 kept : L.take i = keepW what (l.take j)
 rest : L.drop j = l.drop j
theorem del_start {l : List Ent} {what : Int} {k : Nat} (hk : k < l.length) (hw : (gE l k).wh = what) (hb : ∀ j, j < k → (gE l j).wh ≠ what) : DelInv l l what k (k + 1) := by
 refine ⟨rfl, by omega, by omega, ?_, rfl⟩
 unfold keepW
 rw [← List.take_append_getElem hk, List.filter_append, List.filter_cons_of_neg (by rw [gE_at hk] at hw; simp [hw]), List.filter_nil, List.append_nil]
 symm
 rw [List.filter_eq_self]
 intro x hx
 obtain ⟨j, hj, rfl⟩ := List.getElem_of_mem hx
 rw [List.length_take] at hj
 have := hb j (by omega)
 rw [gE_at (by omega)] at this
 simpa using this
theorem del_skip {l L : List Ent} {what : Int} {i j : Nat} (h : DelInv l L what i j) (hj : j < l.length) (hw : (gE l j).wh = what) : DelInv l L what i (j + 1) := by
 obtain ⟨h1, h2, h3, h4, h5⟩ := h
 refine ⟨h1, by omega, by omega, ?_, ?_⟩
 ·unfold keepW at *
  rw [← List.take_append_getElem hj, List.filter_append, ← h4, List.filter_cons_of_neg (by rw [gE_at hj] at hw; simp [hw])]
  simp
 ·rw [← List.drop_drop, ← List.drop_drop, h5]
theorem del_get {l L : List Ent} {what : Int} {i j : Nat} (h : DelInv l L what i j) (hj : j < l.length) : gE L j = gE l j := by
 have h1 := h.len
 rw [gE_at (by omega), gE_at hj]
 have e : (L.drop j)[0]? = (l.drop j)[0]? := by rw [h.rest]
 simp only [List.getElem?_drop, Nat.add_zero] at e
 rw [List.getElem?_eq_getElem (by omega), List.getElem?_eq_getElem hj] at e
 exact Option.some.inj e
theorem del_keep {l L : List Ent} {what : Int} {i j : Nat} (h : DelInv l L what i j) (hj : j < l.length) (hw : (gE l j).wh ≠ what) : DelInv l (L.set i (gE l j)) what (i + 1) (j + 1) := by
 obtain ⟨h1, h2, h3, h4, h5⟩ := h
 refine ⟨by rw [List.length_set]; exact h1, by omega, by omega, ?_, ?_⟩
 ·unfold keepW at *
  rw [← List.take_append_getElem hj, List.filter_append, ← h4, List.filter_cons_of_pos (by rw [gE_at hj] at hw; simpa using hw), List.filter_nil]
  have hi : i < (L.set i (gE l j)).length := by rw [List.length_set]; omega
  rw [← List.take_append_getElem hi, List.take_set_of_le (Nat.le_refl _), List.getElem_set_self, gE_at hj]
 ·rw [List.drop_set_of_lt (by omega), ← List.drop_drop, ← List.drop_drop, h5]

theorem cellsOf_take (L : List Ent) (i : Nat) (hi : i ≤ L.length) : (cellsOf L).take (i * 3) = cellsOf (L.take i) := by
 have h1 := cellsOf_length (L.take i)
 rw [List.length_take, Nat.min_eq_left hi] at h1
 conv => lhs; rw [← List.take_append_drop i L, cellsOf_append]
 rw [← h1, List.take_left]
def DelPost (w : World) (g cap : Nat) (l : List Ent) (what : Int) (e : Ending) (w' : World) : Prop :=
 ∃ rest', e = .returned (.slice (some ⟨g, 0, none⟩) (keepW what l).length cap) ∧ PileAt w' g cap (keepW what l) rest' ∧ Chg w w' (fun k => k = g)
theorem keepW_none {what : Int} {l : List Ent} (h : ∀ x ∈ l, x.wh ≠ what) : keepW what l = l := by
 unfold keepW
 rw [List.filter_eq_self]
 intro x hx
 simpa using h x hx
set_option maxHeartbeats 1000000 in
theorem deleteFunc_any (g cap : Nat) (l : List Ent) (rest : List Value) (what : Int) (B : Nat) (hsm : l.length < 100000000000) (w : World) (hB : Blk w B 3 [.int .i64 what]) (h : PileAt w g cap l rest) (hBg : B ≠ g) :
  Calls Tryz.prog 85 #[.slice (some ⟨g, 0, none⟩) l.length cap, .func (.func 86) #[] #[.pointer (some ⟨B, 0, none⟩)]] w (DelPost w g cap l what) := by
 have H := Lib.hid h
 have HB := Lib.hid hB
 clear h hB
 go_enter Tryz.func85, Tryz.ntmps85
 go_wp2_with fail
 refine (indexFunc_any g cap l rest what B hsm w (HB.out.cell 0 _ rfl) H.out).mono ?_
 rintro e w1 ⟨hb, ⟨rfl, hn⟩ | ⟨k, rfl, hk, hkw, hkb⟩⟩
 ·have HN := Lib.hid (And.intro hb hn)
  clear hb hn
  go_wp2
  go_ret
  refine ⟨rest, ?_, ?_, Chg.of_below HN.out.1⟩
  ·rw [keepW_none HN.out.2]; rfl
  ·rw [keepW_none HN.out.2]; exact H.out.below HN.out.1
 ·have HN := Lib.hid (And.intro hb (And.intro hkw hkb))
  clear hb hkw hkb
  have hk1 : ((k : Int) == -1) = false := by rw [beq_eq_false_iff_ne]; omega
  go_wp2
  go_loopw [5, 6] (fun vi vj wr => ∃ (i j : Nat) (L : List Ent), vi = .int .i64 i ∧ vj = .int .i64 j ∧ i < j ∧ j ≤ l.length ∧ L.length ≤ l.length ∧ l.length ≤ L.length ∧ Hid (DelInv l L what i j ∧ PileAt wr g cap L rest ∧ Chg w wr (fun k => k = g))) (fun _ vj _ => l.length - (intOf vj).toNat)
  case atStart =>
   exact ⟨k, k + 1, l, rfl, by go_num, by omega, by omega, Nat.le_refl _, Nat.le_refl _, Lib.hid ⟨del_start hk HN.out.2.1 HN.out.2.2, H.out.below HN.out.1, Chg.of_below HN.out.1⟩⟩
  case round =>
   obtain ⟨i, j, L, rfl, rfl, hij, hjl, hL1, hL2, HI⟩ := hrel
   clear HN
   by_cases hlt : j < l.length
   ·have HB1 := Lib.hid (HB.out.chg HI.out.2.2 hBg)
    obtain ⟨p0, p1, p2⟩ := HI.out.2.1.cells j (by omega)
    obtain ⟨q0, q1, q2⟩ := HI.out.2.1.cells i (by omega)
    have hf := HI.out.2.1.free
    have hgl := HI.out.2.1.blk.lt
    have hx : L[j] = gE l j := by rw [← gE_at (by omega)]; exact del_get HI.out.1 hlt
    generalize L[i]'(by omega) = y at *
    generalize L[j]'(by omega) = x at *
    have HX := Lib.hid hx
    clear hx
    have hil : (i : Int) < (l.length : Int) := by omega
    go_wp2_with fail
    refine (is_any x what B _ ((HB1.out.alloc _).cell 0 _ rfl)).mono ?_
    rintro e w1 ⟨rfl, rfl⟩
    by_cases hw : x.wh = what
    ·have hwb : (x.wh == what) = true := beq_iff_eq.2 hw
     have HW := Lib.hid hw
     clear hw
     go_wp2
     go_roundw
     case rel =>
      exact ⟨i, j + 1, L, rfl, by go_num, by omega, by omega, hL1, hL2, Lib.hid ⟨del_skip HI.out.1 hlt (by rw [← HX.out]; exact HW.out), (HI.out.2.1.alloc _).alloc _, (HI.out.2.2.alloc _).alloc _⟩⟩
     case measure => simp [intOf]; omega
    ·have hwb : (x.wh == what) = false := beq_eq_false_iff_ne.2 hw
     have HW := Lib.hid hw
     clear hw
     go_wp2
     go_roundw
     case rel =>
      refine ⟨i + 1, j + 1, L.set i x, by go_num, by go_num, by omega, by omega, by rw [List.length_set]; exact hL1, by rw [List.length_set]; exact hL2, Lib.hid ⟨?_, ?_, ?_⟩⟩
      ·rw [HX.out]; exact del_keep HI.out.1 hlt (by rw [← HX.out]; exact HW.out)
      ·exact ((HI.out.2.1.set i x (by omega)).alloc _).alloc _
      ·exact (((((HI.out.2.2.setCell ⟨g, i * 3, none⟩ _ (fun _ => rfl)).setCell ⟨g, i * 3 + 1, none⟩ _ (fun _ => rfl)).setCell ⟨g, i * 3 + 2, none⟩ _ (fun _ => rfl)).alloc _).alloc _)
     case measure => simp [intOf]; omega
   ·have hj : j = l.length := by omega
    subst hj
    have hkl : (keepW what l).length = i := by
     have h4 := HI.out.1.kept
     rw [List.take_of_length_le (Nat.le_refl _)] at h4
     rw [← h4, List.length_take]; omega
    have hblk := HI.out.2.1.blk
    have hcl := cellsOf_length L
    have hle := HI.out.2.1.le
    have hlen := HI.out.2.1.len
    have z49 := Tryz.zeroValue137
    have hclr : ∀ ty, (Builtin.clear_ #[101] ty #[.slice (some ⟨g, i * 3, none⟩) (l.length - i) (cap - i)]).run Tryz.prog wr = .ok (.tuple #[]) (wr.setRow g ((cellsOf L ++ rest).take (i * 3) ++ (Builtin.zeroCells #[.int .i64 0, .int .i64 0, .int .i64 0] (l.length - i)).toList ++ (cellsOf L ++ rest).drop (i * 3 + (l.length - i) * 3)).toArray) :=
     fun ty => run_clear_at wr 101 137 ty (.agg #[.int .i64 0, .int .i64 0, .int .i64 0]) Tryz.underlying101 z49 (by simp [Value.cells, Value.oneCell']) g (i * 3) (l.length - i) (cap - i) (by omega) 137 (cellsOf L ++ rest) hblk (by simp [Value.cells]; omega)
    clear z49
    go_wp2
    go_ret
    have hK : (cellsOf L ++ rest).take (i * 3) = cellsOf (keepW what l) := by
     have h4 := HI.out.1.kept
     rw [List.take_of_length_le (Nat.le_refl _)] at h4
     rw [← h4, List.take_append_of_le_length (by omega)]
     exact cellsOf_take L i (by omega)
    refine ⟨(Builtin.zeroCells #[.int .i64 0, .int .i64 0, .int .i64 0] (l.length - i)).toList ++ (cellsOf L ++ rest).drop (i * 3 + (l.length - i) * 3), by rw [hkl]; rfl, ⟨?_, by omega, H.out.max, ?_⟩, HI.out.2.2.trans (chg_setRow _ _ _) (fun _ _ h => h)⟩
    ·rw [← hK]
     exact blk_setRow hblk _
    ·rw [hkl, List.length_append, List.length_drop, List.length_append]
     have : (Builtin.zeroCells #[Value.int .i64 0, .int .i64 0, .int .i64 0] (l.length - i)).toList.length = (l.length - i) * 3 := by unfold Builtin.zeroCells; rw [Array.length_toList, Array.size_map, Array.size_range]; rfl
     rw [this]
     omega

theorem keep_perm {l m : List Ent} (h : l.Perm m) (what : Int) : (keepW what l).Perm (keepW what m) := h.filter _
theorem keep_le (what : Int) (l : List Ent) : (keepW what l).length ≤ l.length := List.length_filter_le _ _
def CancelPost (w : World) (base b : Nat) (v : Value) (m : List Ent) (ord what : Int) (e : Ending) (w' : World) : Prop :=
 ∃ v', e = .returned (.int .i64 ((m.length : Int) - (keepW what m).length)) ∧ AgS w' base b v' (keepW what m) ord ∧ v'.ownBlock = v.ownBlock ∧ Chg w w' (Foot b v)
theorem indexFunc_nil (A : Option Addr) (c : Nat) (f : Value) (w : World) :
  Calls Tryz.prog 100 #[.slice A 0 c, f] w fun e w' => e = .returned (.int .i64 (-1)) ∧ w = w' := by
 go_enter Tryz.func100, Tryz.ntmps100
 go_wp2
 go_loop [8] (fun v => v = .int .i64 0) (fun _ => 0)
 case atStart => exact rfl
 case round =>
  subst hrel
  go_wp2
  go_ret
  exact ⟨rfl, rfl⟩
theorem deleteFunc_nil (A : Option Addr) (c : Nat) (f : Value) (w : World) :
  Calls Tryz.prog 85 #[.slice A 0 c, f] w fun e w' => e = .returned (.slice A 0 c) ∧ w = w' := by
 go_enter Tryz.func85, Tryz.ntmps85
 go_wp2_with fail
 refine (indexFunc_nil A c f w).mono ?_
 rintro e w' ⟨rfl, rfl⟩
 go_wp2
 go_ret
 exact ⟨rfl, rfl⟩
def DelAgPost (w : World) (base : Nat) (v : Value) (l : List Ent) (what : Int) (e : Ending) (w' : World) : Prop :=
 ∃ v', e = .returned v' ∧ v'.ownBlock = v.ownBlock ∧ w'.ownsRow base 137 3 v' (keepW what l).length (cellsOf (keepW what l)) ∧ (∃ A c, v' = .slice A (keepW what l).length c) ∧ Chg w w' (fun k => some k = v.ownBlock)
theorem deleteFunc_ag (base b : Nat) (v o : Value) (l : List Ent) (what : Int) (B : Nat) (hsm : l.length < 100000000000) (w : World) (hB : Blk w B 3 [.int .i64 what]) (ha : Ag w base b v o l) (hBv : v.ownBlock ≠ some B) :
  Calls Tryz.prog 85 #[v, .func (.func 86) #[] #[.pointer (some ⟨B, 0, none⟩)]] w (DelAgPost w base v l what) := by
 cases l with
 | nil =>
  obtain ⟨A, c, rfl⟩ := ha.form
  exact (deleteFunc_nil A c _ w).mono fun e w' ⟨he, hw⟩ => by subst hw; exact ⟨_, he, rfl, ha.row, ⟨A, c, rfl⟩, Chg.refl _ _⟩
 | cons x l =>
  obtain ⟨g, cap, rest, rfl, hg, hp⟩ := ha.hp (by simp)
  refine (deleteFunc_any g cap (x :: l) rest what B hsm w hB hp.pile (fun e => hBv (by rw [e]; rfl))).mono fun e w' ⟨rest', he, hp', hc⟩ => ⟨_, he, rfl, pile_row hp' hg, ⟨_, _, rfl⟩, hc.mono (fun k _ hk => by rw [hk]; rfl)⟩

set_option maxHeartbeats 1000000 in
theorem cancel_any (base b : Nat) (v : Value) (m : List Ent) (ord what : Int) (hsm : m.length < 1000000000) (w : World) (h : AgS w base b v m ord) :
  Calls Tryz.prog 56 #[.pointer (some ⟨b, 0, none⟩), .int .i64 what] w (CancelPost w base b v m ord what) := by
 obtain ⟨A, c, hv⟩ := h.form
 obtain ⟨⟨l, ha, hh, hp⟩, hs, hpos⟩ := h
 have hll : l.length < 100000000000 := by have := hp.length_eq; omega
 have ha1 := ha.alloc (.cells #[.int .i64 what] 3)
 have hB := Blk.new w 3 [.int .i64 what]
 have hBv : v.ownBlock ≠ some w.heap.size := fun e => by have := (ha.row.lt _ e).2; omega
 have hbl := ha.blk.lt
 have H := Lib.hid (And.intro ha (And.intro hh (And.intro hp (And.intro hs (And.intro hpos (And.intro ha1 hB))))))
 have hc0 := ha.blk.cell 0 _ rfl
 have hc1 := ha1.blk.cell 0 _ rfl
 subst hv
 clear ha hh hp hs hpos ha1 hB
 go_enter Tryz.func56, Tryz.ntmps56
 go_wp2_with fail
 refine (deleteFunc_ag base b _ (.int .i64 ord) l what w.heap.size hll _ H.out.2.2.2.2.2.2 H.out.2.2.2.2.2.1 hBv).mono ?_
 rintro e w1 ⟨v1, rfl, hv1, hr1, ⟨A1, c1, rfl⟩, hch⟩
 obtain ⟨ha, hh, hp, hs, hpos, ha1, hB⟩ := H.out
 have hb1 : Blk w1 b 103 [.slice A m.length c, .int .i64 ord] := ha1.blk.chg hch (fun e => ha1.ne e.symm)
 have hc2 := hb1.cell 0 _ rfl
 have hf2 := hb1.free
 have H1 := Lib.hid (And.intro hv1 (And.intro hr1 (And.intro hch hb1)))
 clear hv1 hr1 hch hb1 ha hh hp hs hpos ha1 hB hc0 hc1
 go_wp2_with fail
 have ha2 : Ag (w1.setCell ⟨b, 0, none⟩ (.slice A1 (keepW what l).length c1)) base b (.slice A1 (keepW what l).length c1) (.int .i64 ord) (keepW what l) :=
  ⟨H1.out.2.2.2.set 0 _ (by simp), ownsRow_set H1.out.2.1 ⟨b, 0, none⟩ _ (by rw [H1.out.1]; exact H.out.1.ne), H.out.1.le, by rw [H1.out.1]; exact H.out.1.ne⟩
 have hk := keep_le what l
 refine (hinit_any base b _ (.int .i64 ord) (keepW what l) (by omega) _ ha2).mono ?_
 rintro e w2 ⟨l', rfl, ha3, hh3, hp3, hc3⟩
 have hc4 := ha3.blk.cell 0 _ rfl
 have hlm := (keep_perm H.out.2.2.1 what).length_eq
 have hmk := keep_le what m
 have H2 := Lib.hid (And.intro ha2 (And.intro ha3 (And.intro hh3 (And.intro hp3 (And.intro hc3 hlm)))))
 clear ha2 ha3 hh3 hp3 hc3 hc2 hf2
 rw [hlm] at hc4
 clear hlm
 go_wp2
 go_ret
 obtain ⟨ha2, ha3, hh3, hp3, hc3, hlm⟩ := H2.out
 refine ⟨_, rfl, ⟨⟨l', ha3, hh3, hp3.trans (keep_perm H.out.2.2.1 what)⟩, srt_filter _ H.out.2.2.2.1, H.out.2.2.2.2.1⟩, H1.out.1, ?_⟩
 have hA : Chg w (w.alloc (.cells [Value.int .i64 what].toArray 3)) (Foot b (.slice A m.length c)) := (Chg.refl w _).alloc _
 refine ((hA.trans H1.out.2.2.1 (fun i _ h => .inr h)).setCell ⟨b, 0, none⟩ _ (fun _ => .inl rfl)).trans hc3 ?_
 rintro i hi (rfl | hk)
 ·exact .inl rfl
 ·exact .inr (by rw [hk]; exact H1.out.1)
structure WtD where
 size : Int
 tries : Int
 kept : Bool
def WtD.cells (x : WtD) : List Value := [.int .i64 x.size, .int .i64 x.tries, .bool x.kept]
def cellsW (l : List WtD) : List Value := l.flatMap WtD.cells
theorem cellsW_length (l : List WtD) : (cellsW l).length = l.length * 3 := by
 induction l with
 | nil => rfl
 | cons x l ih => simp only [cellsW, List.flatMap_cons, List.length_append] at ih ⊢; rw [ih]; simp [WtD.cells]; omega
theorem cellsW_cons (x : WtD) (l : List WtD) : cellsW (x :: l) = x.cells ++ cellsW l := rfl
theorem cellsW_at (l : List WtD) : ∀ (i : Nat) (hi : i < l.length), (cellsW l)[i * 3]? = some (.int .i64 l[i].size) ∧ (cellsW l)[i * 3 + 1]? = some (.int .i64 l[i].tries) ∧ (cellsW l)[i * 3 + 2]? = some (.bool l[i].kept) := by
 induction l with
 | nil => intro i hi; exact absurd hi (Nat.not_lt_zero _)
 | cons x l ih =>
  intro i hi
  cases i with
  | zero => exact ⟨rfl, rfl, rfl⟩
  | succ i =>
   have h := ih i (by simpa using hi)
   rw [cellsW_cons]
   have e : ∀ j, (x.cells ++ cellsW l)[(i + 1) * 3 + j]? = (cellsW l)[i * 3 + j]? := by
    intro j
    rw [List.getElem?_append_right (by simp [WtD.cells]; omega)]
    congr 1
    simp [WtD.cells]; omega
   exact ⟨(e 0).trans h.1, (e 1).trans h.2.1, (e 2).trans h.2.2⟩
theorem cellsW_set (l : List WtD) : ∀ (i : Nat) (x : WtD), i < l.length → cellsW (l.set i x) = (((cellsW l).set (i * 3) (.int .i64 x.size)).set (i * 3 + 1) (.int .i64 x.tries)).set (i * 3 + 2) (.bool x.kept) := by
 induction l with
 | nil => intro i x hi; exact absurd hi (Nat.not_lt_zero _)
 | cons y l ih =>
  intro i x hi
  cases i with
  | zero => rfl
  | succ i =>
   have h := ih i x (by simpa using hi)
   rw [List.set_cons_succ, cellsW_cons, cellsW_cons, h]
   have e : ∀ (m : List Value) (j : Nat) (v : Value), (y.cells ++ m).set ((i + 1) * 3 + j) v = y.cells ++ m.set (i * 3 + j) v := by
    intro m j v
    rw [List.set_append_right _ _ (by simp [WtD.cells]; omega)]
    congr 2
    simp [WtD.cells]; omega
   have e0 : ∀ (m : List Value) (v : Value), (y.cells ++ m).set ((i + 1) * 3) v = y.cells ++ m.set (i * 3) v := fun m v => e m 0 v
   rw [e0, e, e]
def CgRow (D : Nat → Prop) (w : World) (us : List Value) (ls : List CgD) : Prop :=
 us.length = ls.length * 4 ∧ ∀ i (h : i < ls.length), ∃ p q, us[i * 4]? = some (.int .i64 ls[i].wit) ∧ us[i * 4 + 1]? = some (.int .i64 ls[i].sig.index) ∧ us[i * 4 + 2]? = some p ∧ us[i * 4 + 3]? = some q ∧ RwsF D w p ls[i].sig.parts ∧ RwsF D w q ls[i].sig.path
theorem CgRow.nil (D : Nat → Prop) (w : World) : CgRow D w [] [] := ⟨rfl, fun i h => absurd h (Nat.not_lt_zero _)⟩
theorem CgRow.chg {S T : Nat → Prop} {w w1 : World} {us : List Value} {ls : List CgD} (h : CgRow S w us ls) (hc : Chg w w1 T) (hS : ∀ g, S g → ¬ T g) : CgRow S w1 us ls :=
 ⟨h.1, fun i hi => by obtain ⟨p, q, h1, h2, h3, h4, h5, h6⟩ := h.2 i hi; exact ⟨p, q, h1, h2, h3, h4, h5.chg hc hS, h6.chg hc hS⟩⟩
theorem CgRow.mono {S T : Nat → Prop} {w : World} {us : List Value} {ls : List CgD} (h : CgRow S w us ls) (hS : ∀ g, S g → T g) : CgRow T w us ls :=
 ⟨h.1, fun i hi => by obtain ⟨p, q, h1, h2, h3, h4, h5, h6⟩ := h.2 i hi; exact ⟨p, q, h1, h2, h3, h4, h5.mono hS, h6.mono hS⟩⟩
theorem Sho.cut {D : Nat → Prop} {w : World} {v : Value} {n k : Nat} {cs : List Value} (h : Sho w v n k cs) (hf : 0 < n → ∀ g, v.ownBlock = some g → D g) : 0 < n → ∀ g, v.ownBlock = some g → D g ∧ g < w.heap.size := fun h0 g hg => ⟨hf h0 g hg, h.lt h0 g hg⟩
theorem BysF.cut {D : Nat → Prop} {w : World} {v : Value} {l : List UInt8} (h : BysF D w v l) : BysF (fun g => D g ∧ g < w.heap.size) w v l := ⟨h.1, Sho.cut h.1 h.2⟩
theorem RwsF.cut {D : Nat → Prop} {w : World} {v : Value} {ls : List (List UInt8)} (h : RwsF D w v ls) : RwsF (fun g => D g ∧ g < w.heap.size) w v ls := by
 obtain ⟨us, h1, hf, h2⟩ := h
 exact ⟨us, h1, Sho.cut h1 hf, fun i hi => by obtain ⟨u, e, hu, hn⟩ := h2 i hi; exact ⟨u, e, hu, Sho.cut hu hn⟩⟩
theorem CgRow.cut {D : Nat → Prop} {w : World} {us : List Value} {ls : List CgD} (h : CgRow D w us ls) : CgRow (fun g => D g ∧ g < w.heap.size) w us ls :=
 ⟨h.1, fun i hi => by obtain ⟨p, q, h1, h2, h3, h4, h5, h6⟩ := h.2 i hi; exact ⟨p, q, h1, h2, h3, h4, h5.cut, h6.cut⟩⟩

structure FdD where
 p : PolD
 retry : Int
 m : List Ent
 ord : Int
 l : List WtD
 cur : SgD
 has : Bool
 kept : List CgD
 done : SgD
 enough : List CgD
structure FdR where
 base : Nat
 kb : Nat
 lb : Nat
 ab : Nat
 av : Value
 kv : Value
 ev : Value
 pl : Value
 pw : Value
 cr : Value
 cp : Value
 cq : Value
 dr : Value
 dp : Value
 dq : Value
def FdM (f : Nat) (r : FdR) (k : Nat) : Prop := k = f ∨ k = r.lb ∨ r.kv.ownBlock = some k ∨ Foot r.ab r.av k
def fdCells (d : FdD) (r : FdR) : List Value := [r.pl, r.pw, .int .i64 d.p.quorum, .int .i64 d.retry, .pointer (some ⟨r.ab, 0, none⟩), .slice (some ⟨r.lb, 0, none⟩) d.l.length d.l.length, .int .i64 d.cur.ck.num, r.cr, .int .i64 d.cur.sig.index, r.cp, r.cq, .bool d.has, r.kv, .int .i64 d.done.ck.num, r.dr, .int .i64 d.done.sig.index, r.dp, r.dq, r.ev]
def FdDat (Z : Nat → Prop) (f : Nat) (r : FdR) (g : Nat) : Prop := Z g ∧ ¬ FdM f r g
structure FdT (D : Nat → Prop) (w : World) (d : FdD) (r : FdR) (us es : List Value) : Prop where
 pl : BysF D w r.pl d.p.log
 pw : RwsF D w r.pw d.p.wits
 cr : BysF D w r.cr d.cur.ck.root
 cp : RwsF D w r.cp d.cur.sig.parts
 cq : RwsF D w r.cq d.cur.sig.path
 dr : BysF D w r.dr d.done.ck.root
 dp : RwsF D w r.dp d.done.sig.parts
 dq : RwsF D w r.dq d.done.sig.path
 kd : CgRow D w us d.kept
 en : Sho w r.ev d.enough.length 4 es
 ef : 0 < d.enough.length → ∀ g, r.ev.ownBlock = some g → D g
 ed : CgRow D w es d.enough
theorem FdT.chg {S T : Nat → Prop} {w w1 : World} {d : FdD} {r : FdR} {us es : List Value} (h : FdT S w d r us es) (hc : Chg w w1 T) (hS : ∀ g, S g → ¬ T g) : FdT S w1 d r us es :=
 ⟨h.pl.chg hc hS, h.pw.chg hc hS, h.cr.chg hc hS, h.cp.chg hc hS, h.cq.chg hc hS, h.dr.chg hc hS, h.dp.chg hc hS, h.dq.chg hc hS, h.kd.chg hc hS, h.en.chgF h.ef hc hS, h.ef, h.ed.chg hc hS⟩
theorem FdT.mono {S T : Nat → Prop} {w : World} {d : FdD} {r : FdR} {us es : List Value} (h : FdT S w d r us es) (hS : ∀ g, S g → T g) : FdT T w d r us es :=
 ⟨h.pl.mono hS, h.pw.mono hS, h.cr.mono hS, h.cp.mono hS, h.cq.mono hS, h.dr.mono hS, h.dp.mono hS, h.dq.mono hS, h.kd.mono hS, h.en, fun h0 g hg => hS g (h.ef h0 g hg), h.ed.mono hS⟩
theorem FdT.cut {D : Nat → Prop} {w : World} {d : FdD} {r : FdR} {us es : List Value} (h : FdT D w d r us es) : FdT (fun g => D g ∧ g < w.heap.size) w d r us es :=
 ⟨h.pl.cut, h.pw.cut, h.cr.cut, h.cp.cut, h.cq.cut, h.dr.cut, h.dp.cut, h.dq.cut, h.kd.cut, h.en, Sho.cut h.en h.ef, h.ed.cut⟩
structure FdOk (Z : Nat → Prop) (w : World) (f : Nat) (d : FdD) (r : FdR) (us es : List Value) : Prop where
 blk : Blk w f 68 (fdCells d r)
 wt : Blk w r.lb 74 (cellsW d.l)
 ag : AgS w r.base r.ab r.av d.m d.ord
 kp : w.ownsRow r.kb 47 4 r.kv d.kept.length us
 kbl : r.kb ≤ w.heap.size
 bal : r.base ≤ w.heap.size
 tx : FdT (FdDat Z f r) w d r us es
 n1 : f ≠ r.lb
 n2 : r.kv.ownBlock ≠ some f
 n3 : r.kv.ownBlock ≠ some r.lb
 n4 : ¬ Foot r.ab r.av f
 n5 : ¬ Foot r.ab r.av r.lb
 n6 : ∀ k, r.kv.ownBlock = some k → ¬ Foot r.ab r.av k
 mz : ∀ k, FdM f r k → Z k
def FdAt (Z : Nat → Prop) (w : World) (f : Nat) (d : FdD) : Prop := ∃ r us es, FdOk Z w f d r us es
theorem FdOk.chg {Z T : Nat → Prop} {w w1 : World} {f : Nat} {d : FdD} {r : FdR} {us es : List Value} (h : FdOk Z w f d r us es) (hc : Chg w w1 T) (hT : ∀ g, Z g → ¬ T g) : FdOk Z w1 f d r us es :=
 ⟨h.blk.chg hc (hT _ (h.mz _ (.inl rfl))), h.wt.chg hc (hT _ (h.mz _ (.inr (.inl rfl)))), h.ag.chg hc (fun k hk => hT _ (h.mz _ (.inr (.inr (.inr hk))))), ownsRow_chg h.kp hc (fun k hk => hT _ (h.mz _ (.inr (.inr (.inl hk))))), Nat.le_trans h.kbl hc.size, Nat.le_trans h.bal hc.size, h.tx.chg hc (fun g hg => hT g hg.1), h.n1, h.n2, h.n3, h.n4, h.n5, h.n6, h.mz⟩
theorem FdAt.chg {Z T : Nat → Prop} {w w1 : World} {f : Nat} {d : FdD} (h : FdAt Z w f d) (hc : Chg w w1 T) (hT : ∀ g, Z g → ¬ T g) : FdAt Z w1 f d := by
 obtain ⟨r, us, es, h⟩ := h
 exact ⟨r, us, es, h.chg hc hT⟩
theorem FdOk.below {Z : Nat → Prop} {w w1 : World} {f : Nat} {d : FdD} {r : FdR} {us es : List Value} (h : FdOk Z w f d r us es) (hb : Below w.heap.size w w1) : FdOk Z w1 f d r us es := h.chg (Chg.of_below (S := fun _ => False) hb) (fun _ _ h => h)
theorem FdAt.below {Z : Nat → Prop} {w w1 : World} {f : Nat} {d : FdD} (h : FdAt Z w f d) (hb : Below w.heap.size w w1) : FdAt Z w1 f d := h.chg (Chg.of_below (S := fun _ => False) hb) (fun _ _ h => h)
theorem FdOk.lt {Z : Nat → Prop} {w : World} {f : Nat} {d : FdD} {r : FdR} {us es : List Value} (h : FdOk Z w f d r us es) (k : Nat) (hk : FdM f r k) : k < w.heap.size := by
 rcases hk with rfl | rfl | hk | hk
 ·exact h.blk.lt
 ·exact h.wt.lt
 ·exact (World.ownsRow.lt h.kp k hk).2
 ·exact h.ag.foot_lt k hk
def Wide (Z : Nat → Prop) (w w' : World) (g : Nat) : Prop := Z g ∨ Fresh w w' g
theorem Wide.step {Z : Nat → Prop} {w w1 w2 : World} {g : Nat} (h : Wide (Wide Z w w1) w1 w2 g) (h1 : w.heap.size ≤ w1.heap.size) (h2 : w1.heap.size ≤ w2.heap.size) : Wide Z w w2 g := by
 rcases h with (h | h) | h
 ·exact .inl h
 ·exact .inr ⟨h.1, Nat.lt_of_lt_of_le h.2 h2⟩
 ·exact .inr ⟨Nat.le_trans h1 h.1, h.2⟩
theorem FdOk.agenda {Z : Nat → Prop} {w w1 : World} {f : Nat} {d : FdD} {r : FdR} {us es : List Value} (h : FdOk Z w f d r us es) {v' : Value} {m' : List Ent} {ord' : Int} (ha : AgS w1 r.base r.ab v' m' ord') (hv : v'.ownBlock = r.av.ownBlock ∨ ∃ k, v'.ownBlock = some k ∧ w.heap.size ≤ k) (hc : Chg w w1 (Foot r.ab r.av)) :
  FdOk (Wide Z w w1) w1 f { d with m := m', ord := ord' } { r with av := v' } us es := by
 have hfoot : ∀ k, Foot r.ab v' k → Foot r.ab r.av k ∨ w.heap.size ≤ k := by
  intro k hk
  rcases hk with hk | hk
  ·exact .inl (.inl hk)
  ·rcases hv with e | ⟨q, e, hq⟩
   ·exact .inl (.inr (by rw [← e]; exact hk))
   ·rw [e] at hk
    injection hk with hk
    exact .inr (by omega)
 have hM : ∀ k, FdM f { r with av := v' } k → FdM f r k ∨ w.heap.size ≤ k := by
  intro k hk
  rcases hk with hk | hk | hk | hk
  ·exact .inl (.inl hk)
  ·exact .inl (.inr (.inl hk))
  ·exact .inl (.inr (.inr (.inl hk)))
  ·rcases hfoot k hk with h1 | h1
   ·exact .inl (.inr (.inr (.inr h1)))
   ·exact .inr h1
 have hnf : ∀ k, ¬ Foot r.ab r.av k → k < w.heap.size → ¬ Foot r.ab v' k := fun k hn hk hf => by
  rcases hfoot k hf with h1 | h1
  ·exact hn h1
  ·omega
 refine ⟨h.blk.chg hc h.n4, h.wt.chg hc h.n5, ha, ownsRow_chg h.kp hc h.n6, Nat.le_trans h.kbl hc.size, Nat.le_trans h.bal hc.size, ?_, h.n1, h.n2, h.n3, hnf f h.n4 h.blk.lt, hnf _ h.n5 h.wt.lt, fun k hk => hnf k (h.n6 k hk) (World.ownsRow.lt h.kp k hk).2, fun k hk => ?_⟩
 ·have h1 := (h.tx.cut).chg hc (fun g hg e => hg.1.2 (.inr (.inr (.inr e))))
  exact FdT.mono ⟨h1.pl, h1.pw, h1.cr, h1.cp, h1.cq, h1.dr, h1.dp, h1.dq, h1.kd, h1.en, h1.ef, h1.ed⟩ (fun g hg => ⟨.inl hg.1.1, fun e => by
   rcases hM g e with e | e
   ·exact hg.1.2 e
   ·have := hg.2; omega⟩)
 ·rcases hM k hk with e | e
  ·exact .inl (h.mz k e)
  ·refine .inr ⟨e, ?_⟩
   rcases hk with hk | hk | hk | hk
   ·have := h.blk.lt; have := hc.size; omega
   ·have := h.wt.lt; have := hc.size; have hk' : k = r.lb := hk; omega
   ·have := (World.ownsRow.lt h.kp k hk).2; omega
   ·exact ha.foot_lt k hk

set_option maxHeartbeats 1000000 in
def PlanPost (Z : Nat → Prop) (w : World) (f : Nat) (d : FdD) (r : FdR) (us es : List Value) (tm wh : Int) (e : Ending) (w' : World) : Prop :=
 ∃ v', e = .returned (.tuple #[]) ∧ FdOk (Wide Z w w') w' f { d with m := insE ⟨tm, d.ord, wh⟩ (keepW wh d.m), ord := d.ord + 1 } { r with av := v' } us es ∧ Chg w w' (Foot r.ab r.av) ∧ (v'.ownBlock = r.av.ownBlock ∨ ∃ k, v'.ownBlock = some k ∧ w.heap.size ≤ k)
theorem keepW_le (what : Int) (l : List Ent) : (keepW what l).length ≤ l.length := List.length_filter_le _ _
set_option maxRecDepth 100000 in
set_option maxHeartbeats 1000000 in
theorem plan_any (Z : Nat → Prop) (f : Nat) (d : FdD) (r : FdR) (us es : List Value) (tm wh : Int) (hm : d.m.length ≤ 10000000) (ho : d.ord ≤ 1000000000) (w : World) (h : FdOk Z w f d r us es) :
  Calls Tryz.prog 29 #[.pointer (some ⟨f, 0, none⟩), .int .i64 tm, .int .i64 wh] w (PlanPost Z w f d r us es tm wh) := by
 have q2 := h.blk.cell 4 _ rfl
 have HC := Lib.hid (cancel_any r.base r.ab r.av d.m d.ord wh (by omega) w h.ag)
 have H := Lib.hid h
 clear h
 go_enter Tryz.func29, Tryz.ntmps29
 go_wp2_with fail
 refine HC.out.mono ?_
 rintro e w1 ⟨v1, rfl, h1, h2, h3⟩
 have H1 := Lib.hid (H.out.agenda h1 (.inl h2) h3)
 have q3 : w1.cell? ⟨f, 4, none⟩ = some (.pointer (some ⟨r.ab, 0, none⟩)) := H1.out.blk.cell 4 _ rfl
 have HA := Lib.hid (add_any r.base r.ab v1 (keepW wh d.m) d.ord tm wh (by have := keepW_le wh d.m; omega) (by omega) w1 h1)
 have HV := Lib.hid (And.intro h2 h3)
 clear h1 h2 h3 q2
 go_wp2_with fail
 refine HA.out.mono ?_
 rintro e w2 ⟨v2, rfl, h1, h2, h3⟩
 have H2 := Lib.hid (And.intro (H1.out.agenda h1 h2 h3) h3)
 have HLI := Lib.hid h2
 clear h1 h2 h3 q3
 go_wp2
 go_end0
 have hch : Chg w w2 (Foot r.ab r.av) := HV.out.2.trans H2.out.2 (fun i _ hi => by
  rcases hi with hi | hi
  ·exact .inl hi
  ·exact .inr (by rw [← HV.out.1]; exact hi))
 refine ⟨v2, rfl, ?_, hch, ?_⟩
 rotate_left 1
 ·rcases HLI.out with e | ⟨k, e, hk⟩
  ·exact .inl (e.trans HV.out.1)
  ·exact .inr ⟨k, e, Nat.le_trans HV.out.2.size hk⟩
 have h9 := H2.out.1
 refine ⟨h9.blk, h9.wt, h9.ag, h9.kp, h9.kbl, h9.bal, ?_, h9.n1, h9.n2, h9.n3, h9.n4, h9.n5, h9.n6, fun k hk => (h9.mz k hk).step HV.out.2.size H2.out.2.size⟩
 exact h9.tx.mono (fun g hg => ⟨hg.1.step HV.out.2.size H2.out.2.size, hg.2⟩)
def zSg : SgD := ⟨⟨0, []⟩, ⟨0, [], []⟩⟩
def fdNew (p : PolD) (retry : Int) : FdD := ⟨p, retry, [], 0, List.replicate p.wits.length ⟨0, 0, false⟩, zSg, false, [], zSg, []⟩
theorem info_state : (Tryz.prog.info? 74).map (fun i => (i.zero, i.size, i.bytes)) = some (some (.agg #[.int .i64 0, .int .i64 0, .bool false]), 3, 24) := by kernel_rfl
theorem made_state (n : Nat) (h : n ≤ 4) : madeCells (Value.agg #[.int .i64 0, .int .i64 0, .bool false]).cells (n * 3) = (cellsW (List.replicate n ⟨0, 0, false⟩)).toArray := by
 obtain rfl | rfl | rfl | rfl | rfl : n = 0 ∨ n = 1 ∨ n = 2 ∨ n = 3 ∨ n = 4 := by omega
 all_goals kernel_rfl
theorem make_state (n : Nat) (h : n ≤ 4) (w : World) : (Instr.makeSlice 66 (.int .i64 n) (.int .i64 n)).run Tryz.prog w = .ok (.slice (some ⟨w.heap.size, 0, none⟩) n n) (w.alloc (.cells (cellsW (List.replicate n ⟨0, 0, false⟩)).toArray 74)) := by
 obtain ⟨i0, hi0, hz0, hz1, hz2⟩ := info_parts info_state
 have hr := run_make (P := Tryz.prog) w 66 74 i0 _ Tryz.underlying66 hi0 hz0 .i64 .i64 n n (by omega) (Int.le_refl _) (by rw [hz2]; omega) (by omega)
 rw [hz1] at hr
 simp only [Int.toNat_natCast] at hr
 rw [made_state n h] at hr
 exact hr
def NewSt (w W : World) (LB A : Nat) (lv wv : Value) (p : PolD) : Prop :=
 Below w.heap.size w W ∧ BysF (fun g => w.heap.size ≤ g ∧ g < W.heap.size ∧ g ≠ LB ∧ g ≠ A) W lv p.log ∧ RwsF (fun g => w.heap.size ≤ g ∧ g < W.heap.size ∧ g ≠ LB ∧ g ≠ A) W wv p.wits ∧ AgS W A A (.slice none 0 0) [] 0 ∧ Blk W LB 74 (cellsW (List.replicate p.wits.length ⟨0, 0, false⟩)) ∧ LB ≠ A ∧ w.heap.size ≤ LB ∧ w.heap.size ≤ A
def zeroR (base kb lb ab : Nat) (lv wv : Value) : FdR := ⟨base, kb, lb, ab, .slice none 0 0, .slice none 0 0, .slice none 0 0, lv, wv, .slice none 0 0, .slice none 0 0, .slice none 0 0, .slice none 0 0, .slice none 0 0, .slice none 0 0⟩
theorem bysF_nil (S : Nat → Prop) (w : World) : BysF S w (.slice none 0 0) [] := ⟨Sho.nil w 1, fun h => absurd h (Nat.lt_irrefl _)⟩
theorem rwsF_nil (S : Nat → Prop) (w : World) : RwsF S w (.slice none 0 0) [] := ⟨[], Sho.nil w 1, fun h => absurd h (Nat.lt_irrefl _), fun i h => absurd h (Nat.not_lt_zero _)⟩
theorem new_ok {w W : World} {LB A : Nat} {lv wv : Value} {p : PolD} {retry : Int} (h : NewSt w W LB A lv wv p) (W2 : World) (hW2 : W2 = W.alloc (.cells (fdCells (fdNew p retry) (zeroR A W.heap.size LB A lv wv)).toArray 68)) :
  FdAt (Fresh w W2) W2 W.heap.size (fdNew p retry) ∧ Below w.heap.size w W2 := by
 obtain ⟨h1, h2, h3, h4, h5, h6, h7, h8⟩ := h
 have hb : Below W.heap.size W W2 := by rw [hW2]; exact (Below.refl _ _).alloc (Nat.le_refl _) _
 have hblk : Blk W2 W.heap.size 68 (fdCells (fdNew p retry) (zeroR A W.heap.size LB A lv wv)) := by rw [hW2]; exact Blk.new W _ _
 have hsz : W2.heap.size = W.heap.size + 1 := by rw [hW2]; simp
 have hA := h4.blk.lt
 have hL := h5.lt
 have hw := h1.size
 refine ⟨⟨zeroR A W.heap.size LB A lv wv, [], [], ?_⟩, h1.trans (hb.mono hw)⟩
 have hft : ∀ k, Foot A (.slice none 0 0) k → k = A := fun k hk => by
  rcases hk with hk | hk
  ·exact hk
  ·exact absurd hk (by simp [Value.ownBlock])
 have hM : ∀ k, FdM W.heap.size (zeroR A W.heap.size LB A lv wv) k → k = W.heap.size ∨ k = LB ∨ k = A := fun k hk => by
  rcases hk with hk | hk | hk | hk
  ·exact .inl hk
  ·exact .inr (.inl hk)
  ·exact absurd hk (by simp [zeroR, Value.ownBlock])
  ·exact .inr (.inr (hft k hk))
 have hD : ∀ g, w.heap.size ≤ g ∧ g < W.heap.size ∧ g ≠ LB ∧ g ≠ A → FdDat (Fresh w W2) W.heap.size (zeroR A W.heap.size LB A lv wv) g := fun g hg => ⟨⟨hg.1, by omega⟩, fun e => by
  rcases hM g e with e | e | e
  ·have := hg.2.1; omega
  ·exact hg.2.2.1 e
  ·exact hg.2.2.2 e⟩
 refine ⟨hblk, h5.below hb, h4.below hb, World.ownsRow_nil _ _ _ _, by show W.heap.size ≤ _; omega, by show A ≤ _; omega, ⟨(h2.below hb).mono hD, (h3.below hb).mono hD, bysF_nil _ _, rwsF_nil _ _, rwsF_nil _ _, bysF_nil _ _, rwsF_nil _ _, rwsF_nil _ _, CgRow.nil _ _, Sho.nil _ _, fun h => absurd h (Nat.lt_irrefl _), CgRow.nil _ _⟩, by show W.heap.size ≠ LB; omega, by simp [zeroR, Value.ownBlock], by simp [zeroR, Value.ownBlock], fun e => by have := hft _ e; omega, fun e => h6 (hft _ e), fun k hk => absurd hk (by simp [zeroR, Value.ownBlock]), fun k hk => ?_⟩
 rcases hM k hk with e | e | e
 ·exact ⟨by omega, by omega⟩
 ·exact ⟨by omega, by omega⟩
 ·exact ⟨by omega, by omega⟩
theorem polB_facts {p : PolD} (h : polB p = true) : p.log.length = 32 ∧ 1 ≤ p.wits.length ∧ p.wits.length ≤ 4 ∧ 1 ≤ p.quorum ∧ p.quorum ≤ (p.wits.length : Int) ∧ witsN p.wits p.wits.length = true := by
 simp only [polB, Bool.and_eq_true, decide_eq_true_eq] at h
 obtain ⟨⟨⟨⟨⟨h1, h2⟩, h3⟩, h4⟩, h5⟩, h6⟩ := h
 exact ⟨h1, h2, h3, h4, h5, h6⟩
def NewPost (w : World) (p : PolD) (retry : Int) (e : Ending) (w' : World) : Prop :=
 ∃ f Z, e = .returned (.tuple #[.pointer (some ⟨f, 0, none⟩), .int .i64 0]) ∧ FdAt Z w' f (fdNew p retry) ∧ (∀ g, Z g → w.heap.size ≤ g ∧ g < w'.heap.size) ∧ Below w.heap.size w w'
set_option maxRecDepth 100000 in
set_option maxHeartbeats 4000000 in
theorem fnew_no (v : Value) (p : PolD) (retry : Int) (hs : SmallPol p) (hbad : polB p = false ∨ retry < 1 ∨ 100 < retry) (w : World) (hv : PolV w v p) :
  Calls Tryz.prog 9 #[v, .int .i64 retry] w fun e w' => e = .returned (.tuple #[.pointer none, .int .i64 1]) ∧ Below w.heap.size w w' := by
 have HR := Lib.hid (fun (wz : World) (v : Value) (hz : PolV wz v p) => coright_any v p hs.1 hs.2.1 hs.2.2.2 wz hz)
 obtain ⟨l, ws, rfl, h1, h2⟩ := hv
 obtain ⟨L, cl, rfl⟩ := h1.form
 obtain ⟨R, cr, rfl⟩ := h2.form
 have HX := Lib.hid (And.intro h1 h2)
 have HW := Lib.hid ((Below.refl w.heap.size w).alloc (Nat.le_refl _) (.cells #[.slice L p.log.length cl, .slice R p.wits.length cr, .int .i64 p.quorum] 29))
 have HB := Lib.hid hbad
 clear h1 h2 hs hbad
 go_enter Tryz.func9, Tryz.ntmps9
 go_wp2_with fail
 refine (HR.out _ _ ⟨_, _, rfl, HX.out.1.below HW.out, HX.out.2.below HW.out⟩).mono ?_
 rintro e w1 ⟨rfl, h1⟩
 have H1 := Lib.hid (HW.out.trans (h1.mono (by simp)))
 clear h1
 cases hpb : polB p with
 | false =>
  go_wp2
  go_ret2
  exact ⟨rfl, H1.out⟩
 | true =>
  by_cases c1 : retry < 1
  ·go_wp2
   go_ret2
   exact ⟨rfl, H1.out⟩
  ·have c2 : 100 < retry := by
    rcases HB.out with h | h | h
    ·rw [hpb] at h; cases h
    ·exact absurd h c1
    ·exact h
   go_wp2
   go_ret2
   exact ⟨rfl, H1.out⟩
set_option maxRecDepth 100000 in
set_option maxHeartbeats 8000000 in
theorem fnew_yes (v : Value) (p : PolD) (retry : Int) (hs : SmallPol p) (hpb : polB p = true) (hr1 : 1 ≤ retry) (hr2 : retry ≤ 100) (w : World) (hv : PolV w v p) :
  Calls Tryz.prog 9 #[v, .int .i64 retry] w (NewPost w p retry) := by
 have HR := Lib.hid (fun (wz : World) (v : Value) (hz : PolV wz v p) => coright_any v p hs.1 hs.2.1 hs.2.2.2 wz hz)
 rw [hpb] at HR
 have HP := Lib.hid (fun (wz : World) (v : Value) (hz : PolV wz v p) => fpolicy_any v p hs wz hz)
 obtain ⟨g1, g2, g3, -⟩ := polB_facts hpb
 obtain ⟨l, ws, rfl, h1, h2⟩ := hv
 obtain ⟨L, cl, rfl⟩ := h1.form
 obtain ⟨R, cr, rfl⟩ := h2.form
 have HX := Lib.hid (And.intro h1 h2)
 have hk0 := Blk.new w 29 [.slice L p.log.length cl, .slice R p.wits.length cr, .int .i64 p.quorum]
 have hb0 := (Below.refl w.heap.size w).alloc (Nat.le_refl _) (.cells #[.slice L p.log.length cl, .slice R p.wits.length cr, .int .i64 p.quorum] 29)
 have HW := Lib.hid (And.intro hk0 hb0)
 clear h1 h2 hs hpb hk0 hb0 g1
 go_enter Tryz.func9, Tryz.ntmps9
 go_wp2_with fail
 refine (HR.out _ _ ⟨_, _, rfl, HX.out.1.below HW.out.2, HX.out.2.below HW.out.2⟩).mono ?_
 rintro e w1 ⟨rfl, h1⟩
 have H1 := Lib.hid (And.intro (HW.out.1.below h1) (HW.out.2.trans (h1.mono (by simp))))
 have hsz1 : w.heap.size < w1.heap.size := H1.out.1.lt
 have c0 := H1.out.1.cell 0 _ rfl
 have c1 := H1.out.1.cell 1 _ rfl
 have c2 := H1.out.1.cell 2 _ rfl
 clear h1
 go_wp2
 have hmk := fun v : World => make_state p.wits.length g3 v
 refine wp_region_held_drew (S := fun w' => w'.cell? ⟨w.heap.size, 0, none⟩ = some (.slice L p.log.length cl) ∧ w'.cell? ⟨w.heap.size, 1, none⟩ = some (.slice R p.wits.length cr) ∧ w'.cell? ⟨w.heap.size, 2, none⟩ = some (.int .i64 p.quorum)) (by kernel_rfl) ?_ (fun hHeld => ?_)
 ·exact ⟨c0, c1, c2⟩
 refine ty 0 17 rfl rfl ?_; simp only [sa, sb, sc]
 refine ty 2 19 rfl rfl ?_; simp only [sa, sb, sc]
 refine ty 4 21 rfl rfl ?_; simp only [sa, sb, sc]
 refine ty 5 22 rfl rfl ?_; simp only [sa, sb, sc]
 refine ty 6 23 rfl rfl ?_; simp only [sa, sb, sc]
 refine wpAnyH_ready (rs := [1, 7]) (by kernel_rfl) (by simp) ?_
 refine AllReadyH.cons rfl (fun K hK => ?w3_1) (AllReadyH.cons rfl (fun K hK => ?w3_7) AllReadyH.nil)
 case' w3_7 =>
  go_simp
  have hbl := ((Below.refl w1.heap.size w1).alloc (Nat.le_refl _) (.cells (cellsW (List.replicate p.wits.length ⟨0, 0, false⟩)).toArray 74)).drew
  have hkl : Blk (w1.alloc (.cells (cellsW (List.replicate p.wits.length ⟨0, 0, false⟩)).toArray 74)).drew w1.heap.size 74 (cellsW (List.replicate p.wits.length ⟨0, 0, false⟩)) := (Blk.new w1 74 (cellsW (List.replicate p.wits.length ⟨0, 0, false⟩))).drew
  have HBL := Lib.hid (And.intro hbl hkl)
  clear hbl hkl
  refine hK.out _ _ ⟨by go_keep, by go_keep, by go_keep⟩ (fun hHeld7 => ?_)
  clear hK K; try simp only [Act.put, sa, sb, sc]
  refine rd 1 (by kernel_rfl) rfl (fun K hK => ?_)
  go_simp
  go_at_call 22
  have hbb : Below w1.heap.size w1 ((w1.alloc (.cells (cellsW (List.replicate p.wits.length ⟨0, 0, false⟩)).toArray 74)).drew) := HBL.out.1
  refine (HP.out _ _ ⟨_, _, rfl, HX.out.1.below (H1.out.2.trans (hbb.mono H1.out.2.size)), HX.out.2.below (H1.out.2.trans (hbb.mono H1.out.2.size))⟩).mono ?_
  rintro e w2 ⟨v2, rfl, ⟨lv, wv, rfl, h2, h3⟩, h4⟩
  obtain ⟨A2, n2, rfl⟩ := h2.1.form
  obtain ⟨A3, n3, rfl⟩ := h3.rws.form
  have hb2 : Below w1.heap.size w1 w2 := hbb.trans (h4.mono hbb.size)
  have k0 := H1.out.1.below hb2
  have e0 := k0.cell 0 _ rfl
  have e1 := k0.cell 1 _ rfl
  have e2 := k0.cell 2 _ rfl
  have hbw2 : w.heap.size < w2.heap.size := k0.lt
  have hgz : ((w1.alloc (.cells (cellsW (List.replicate p.wits.length ⟨0, 0, false⟩)).toArray 74)).drew).heap.size ≤ w2.heap.size := h4.size
  have hfs : (w1.alloc (.cells (cellsW (List.replicate p.wits.length ⟨0, 0, false⟩)).toArray 74)).drew.heap.size = w1.heap.size + 1 := by show (w1.alloc _).heap.size = _; simp
  have H2 := Lib.hid (And.intro (h2.mono (T := fun g => w1.heap.size + 1 ≤ g ∧ g < w2.heap.size) (fun g hg => ⟨by have := hg.1; rw [hfs] at this; exact this, hg.2⟩)) (And.intro (h3.mono (T := fun g => w1.heap.size + 1 ≤ g ∧ g < w2.heap.size) (fun g hg => ⟨by have := hg.1; rw [hfs] at this; exact this, hg.2⟩)) (And.intro hb2 (And.intro k0 (HBL.out.2.below h4)))))
  have hl2 : w1.heap.size + 1 ≤ w2.heap.size := by rw [← hfs]; exact hgz
  clear h2 h3 h4 hb2 k0 hbb hfs hgz
  go_wp2_with fail
  refine hK.out _ _ ⟨e0, e1, e2⟩ (fun hHeld1 => ?_)
  clear hK K; try simp only [Act.put, sa, sb, sc]
  refine rd 3 (by kernel_rfl) rfl (fun K hK => ?_)
  go_simp
  go_at_call 23
  refine (new_any w2).mono ?_
  rintro e w3 ⟨rfl, h5, h6⟩
  have k0 := H2.out.2.2.2.1.below h6
  have i0 := k0.cell 0 _ rfl
  have i1 := k0.cell 1 _ rfl
  have i2 := k0.cell 2 _ rfl
  have H3 := Lib.hid (And.intro h5 h6)
  clear h5 h6 k0
  go_wp2_with fail
  refine hK.out _ _ ⟨i0, i1, i2⟩ (fun hHeld3 => ?_)
  clear hK K; try simp only [Act.put, sa, sb, sc]
  refine ty 8 25 rfl rfl ?_; simp only [sa, sb, sc]
  refine rd 9 (by kernel_rfl) rfl (fun K hK => ?_)
  go_simp
  have hz := H2.out.2.2.1.size
  have hz3 := H3.out.2.size
  have hA3 := H3.out.1.blk.lt
  have HS : Hid (NewSt w w3 w1.heap.size w2.heap.size (.slice A2 p.log.length n2) (.slice A3 p.wits.length n3) p) := Lib.hid ⟨(H1.out.2.trans (H2.out.2.2.1.mono H1.out.2.size)).trans (H3.out.2.mono (by omega)), (H2.out.1.below H3.out.2).mono (fun g hg => ⟨by have := hg.1; omega, by have := hg.2; omega, by have := hg.1; have := hg.2; omega, by have := hg.1; have := hg.2; omega⟩), (H2.out.2.1.below H3.out.2).mono (fun g hg => ⟨by have := hg.1; omega, by have := hg.2; omega, by have := hg.1; have := hg.2; omega, by have := hg.1; have := hg.2; omega⟩), H3.out.1, H2.out.2.2.2.2.below H3.out.2, by omega, by omega, by omega⟩
  refine hK.out _ _ ⟨by go_keep, by go_keep, by go_keep⟩ (fun hHeld9 => ?_)
  clear hK K; try simp only [Act.put, sa, sb, sc]
  refine ty 10 4 rfl rfl ?_; simp only [sa, sb, sc]
  refine ty 11 5 rfl rfl ?_; simp only [sa, sb, sc]
  refine wpAnyH_done (by kernel_rfl) ?_ _
  have HN := Lib.hid (new_ok (retry := retry) HS.out ((w3).alloc (.cells #[.slice A2 p.log.length n2, .slice A3 p.wits.length n3, .int .i64 p.quorum, .int .i64 retry, .pointer (some ⟨w2.heap.size, 0, none⟩), .slice (some ⟨w1.heap.size, 0, none⟩) p.wits.length p.wits.length, .int .i64 0, .slice none 0 0, .int .i64 0, .slice none 0 0, .slice none 0 0, .bool false, .slice none 0 0, .int .i64 0, .slice none 0 0, .int .i64 0, .slice none 0 0, .slice none 0 0, .slice none 0 0] 68)) (by simp [fdCells, fdNew, zeroR, zSg]))
  go_wp2
  go_ret2
  exact ⟨_, _, rfl, HN.out.1, fun g hg => hg, HN.out.2⟩
 case' w3_1 =>
  go_simp
  go_at_call 22
  have hbb : Below w1.heap.size w1 (w1.drew) := (Below.refl w1.heap.size w1).drew
  refine (HP.out _ _ ⟨_, _, rfl, HX.out.1.below (H1.out.2.trans (hbb.mono H1.out.2.size)), HX.out.2.below (H1.out.2.trans (hbb.mono H1.out.2.size))⟩).mono ?_
  rintro e w2 ⟨v2, rfl, ⟨lv, wv, rfl, h2, h3⟩, h4⟩
  obtain ⟨A2, n2, rfl⟩ := h2.1.form
  obtain ⟨A3, n3, rfl⟩ := h3.rws.form
  have hb2 : Below w1.heap.size w1 w2 := hbb.trans (h4.mono hbb.size)
  have k0 := H1.out.1.below hb2
  have e0 := k0.cell 0 _ rfl
  have e1 := k0.cell 1 _ rfl
  have e2 := k0.cell 2 _ rfl
  have hbw2 : w.heap.size < w2.heap.size := k0.lt
  have hgz : (w1.drew).heap.size ≤ w2.heap.size := h4.size
  have H2 := Lib.hid (And.intro (show BysF (fun g => w1.heap.size ≤ g ∧ g < w2.heap.size) w2 _ p.log from h2) (And.intro (show RwsF (fun g => w1.heap.size ≤ g ∧ g < w2.heap.size) w2 _ p.wits from h3) (And.intro hb2 k0)))
  clear h2 h3 h4 hb2 k0 hbb
  go_wp2_with fail
  refine hK.out _ _ ⟨e0, e1, e2⟩ (fun hHeld1 => ?_)
  clear hK K; try simp only [Act.put, sa, sb, sc]
  refine wpAnyH_ready (rs := [3, 7]) (by kernel_rfl) (by simp) ?_
  refine AllReadyH.cons rfl (fun K hK => ?w3_1_3) (AllReadyH.cons rfl (fun K hK => ?w3_1_7) AllReadyH.nil)
  case' w3_1_7 =>
   go_simp
   have hbl := ((Below.refl w2.heap.size w2).alloc (Nat.le_refl _) (.cells (cellsW (List.replicate p.wits.length ⟨0, 0, false⟩)).toArray 74))
   have hkl := Blk.new w2 74 (cellsW (List.replicate p.wits.length ⟨0, 0, false⟩))
   have HBL := Lib.hid (And.intro hbl hkl)
   clear hbl hkl
   refine hK.out _ _ ⟨by go_keep, by go_keep, by go_keep⟩ (fun hHeld7 => ?_)
   clear hK K; try simp only [Act.put, sa, sb, sc]
   refine rd 3 (by kernel_rfl) rfl (fun K hK => ?_)
   go_simp
   go_at_call 23
   refine (new_any _).mono ?_
   rintro e w3 ⟨rfl, h5, h6⟩
   have k0 := (H2.out.2.2.2.below HBL.out.1).below h6
   have i0 := k0.cell 0 _ rfl
   have i1 := k0.cell 1 _ rfl
   have i2 := k0.cell 2 _ rfl
   have hl3 : (w2.alloc (.cells (cellsW (List.replicate p.wits.length ⟨0, 0, false⟩)).toArray 74)).heap.size = w2.heap.size + 1 := by simp
   rw [hl3] at h5
   have H3 := Lib.hid (And.intro h5 (And.intro (HBL.out.1.trans (h6.mono HBL.out.1.size)) (HBL.out.2.below h6)))
   clear h5 h6 k0 hl3
   go_wp2_with fail
   refine hK.out _ _ ⟨i0, i1, i2⟩ (fun hHeld3 => ?_)
   clear hK K; try simp only [Act.put, sa, sb, sc]
   refine ty 8 25 rfl rfl ?_; simp only [sa, sb, sc]
   refine rd 9 (by kernel_rfl) rfl (fun K hK => ?_)
   go_simp
   have hz := H2.out.2.2.1.size
   have hz3 := H3.out.2.1.size
   have hA3 := H3.out.1.blk.lt
   have HS : Hid (NewSt w w3 w2.heap.size (w2.heap.size + 1) (.slice A2 p.log.length n2) (.slice A3 p.wits.length n3) p) := Lib.hid ⟨(H1.out.2.trans (H2.out.2.2.1.mono H1.out.2.size)).trans (H3.out.2.1.mono (by omega)), (H2.out.1.below H3.out.2.1).mono (fun g hg => ⟨by have := hg.1; omega, by have := hg.2; omega, by have := hg.1; have := hg.2; omega, by have := hg.1; have := hg.2; omega⟩), (H2.out.2.1.below H3.out.2.1).mono (fun g hg => ⟨by have := hg.1; omega, by have := hg.2; omega, by have := hg.1; have := hg.2; omega, by have := hg.1; have := hg.2; omega⟩), H3.out.1, H3.out.2.2, by omega, by omega, by omega⟩
   refine hK.out _ _ ⟨by go_keep, by go_keep, by go_keep⟩ (fun hHeld9 => ?_)
   clear hK K; try simp only [Act.put, sa, sb, sc]
   refine ty 10 4 rfl rfl ?_; simp only [sa, sb, sc]
   refine ty 11 5 rfl rfl ?_; simp only [sa, sb, sc]
   refine wpAnyH_done (by kernel_rfl) ?_ _
   have HN := Lib.hid (new_ok (retry := retry) HS.out ((w3).alloc (.cells #[.slice A2 p.log.length n2, .slice A3 p.wits.length n3, .int .i64 p.quorum, .int .i64 retry, .pointer (some ⟨w2.heap.size + 1, 0, none⟩), .slice (some ⟨w2.heap.size, 0, none⟩) p.wits.length p.wits.length, .int .i64 0, .slice none 0 0, .int .i64 0, .slice none 0 0, .slice none 0 0, .bool false, .slice none 0 0, .int .i64 0, .slice none 0 0, .int .i64 0, .slice none 0 0, .slice none 0 0, .slice none 0 0] 68)) (by simp [fdCells, fdNew, zeroR, zSg]))
   go_wp2
   go_ret2
   exact ⟨_, _, rfl, HN.out.1, fun g hg => hg, HN.out.2⟩
  case' w3_1_3 =>
   go_simp
   go_at_call 23
   refine (new_any w2).mono ?_
   rintro e w3 ⟨rfl, h5, h6⟩
   have k0 := H2.out.2.2.2.below h6
   have i0 := k0.cell 0 _ rfl
   have i1 := k0.cell 1 _ rfl
   have i2 := k0.cell 2 _ rfl
   have H3 := Lib.hid (And.intro h5 h6)
   have hbw3 : w.heap.size < w3.heap.size := k0.lt
   clear h5 h6 k0
   go_wp2_with fail
   refine hK.out _ _ ⟨i0, i1, i2⟩ (fun hHeld3 => ?_)
   clear hK K; try simp only [Act.put, sa, sb, sc]
   refine rd 7 (by kernel_rfl) rfl (fun K hK => ?_)
   go_simp
   refine hK.out _ _ ⟨by go_keep, by go_keep, by go_keep⟩ (fun hHeld7 => ?_)
   clear hK K; try simp only [Act.put, sa, sb, sc]
   refine ty 8 25 rfl rfl ?_; simp only [sa, sb, sc]
   refine rd 9 (by kernel_rfl) rfl (fun K hK => ?_)
   go_simp
   have hz := H2.out.2.2.1.size
   have hz3 := H3.out.2.size
   have hA3 := H3.out.1.blk.lt
   have ha := (Below.refl w3.heap.size w3).alloc (Nat.le_refl _) (.cells (cellsW (List.replicate p.wits.length ⟨0, 0, false⟩)).toArray 74)
   have haz := ha.size
   have HS : Hid (NewSt w (w3.alloc (.cells (cellsW (List.replicate p.wits.length ⟨0, 0, false⟩)).toArray 74)) w3.heap.size w2.heap.size (.slice A2 p.log.length n2) (.slice A3 p.wits.length n3) p) := Lib.hid ⟨((H1.out.2.trans (H2.out.2.2.1.mono H1.out.2.size)).trans (H3.out.2.mono (by omega))).trans (ha.mono (by omega)), ((H2.out.1.below H3.out.2).below ha).mono (fun g hg => ⟨by have := hg.1; omega, by have := hg.2; omega, by have := hg.1; have := hg.2; omega, by have := hg.1; have := hg.2; omega⟩), ((H2.out.2.1.below H3.out.2).below ha).mono (fun g hg => ⟨by have := hg.1; omega, by have := hg.2; omega, by have := hg.1; have := hg.2; omega, by have := hg.1; have := hg.2; omega⟩), H3.out.1.below ha, Blk.new w3 74 (cellsW (List.replicate p.wits.length ⟨0, 0, false⟩)), by omega, by omega, by omega⟩
   refine hK.out _ _ ⟨by go_keep, by go_keep, by go_keep⟩ (fun hHeld9 => ?_)
   clear hK K; try simp only [Act.put, sa, sb, sc]
   refine ty 10 4 rfl rfl ?_; simp only [sa, sb, sc]
   refine ty 11 5 rfl rfl ?_; simp only [sa, sb, sc]
   refine wpAnyH_done (by kernel_rfl) ?_ _
   have hn := new_ok (retry := retry) HS.out ((w3.alloc (.cells (cellsW (List.replicate p.wits.length ⟨0, 0, false⟩)).toArray 74)).alloc (.cells #[.slice A2 p.log.length n2, .slice A3 p.wits.length n3, .int .i64 p.quorum, .int .i64 retry, .pointer (some ⟨w2.heap.size, 0, none⟩), .slice (some ⟨w3.heap.size, 0, none⟩) p.wits.length p.wits.length, .int .i64 0, .slice none 0 0, .int .i64 0, .slice none 0 0, .slice none 0 0, .bool false, .slice none 0 0, .int .i64 0, .slice none 0 0, .int .i64 0, .slice none 0 0, .slice none 0 0, .slice none 0 0] 68)) (by simp [fdCells, fdNew, zeroR, zSg])
   have hsz : (w3.alloc (.cells (cellsW (List.replicate p.wits.length ⟨0, 0, false⟩)).toArray 74)).heap.size = w3.heap.size + 1 := by simp
   rw [hsz] at hn
   have HN := Lib.hid hn
   clear hn hsz
   go_wp2
   go_ret2
   exact ⟨_, _, rfl, HN.out.1, fun g hg => hg, HN.out.2⟩
end Go.Proofs.YtlkgeifmppadmaaGreat
