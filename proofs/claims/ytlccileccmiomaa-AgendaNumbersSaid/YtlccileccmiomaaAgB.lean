/- The heap's functions over a pile: up, down, Push, Pop, Init. Conditions: as each theorem states them. -/
import Derived.Test.YtlccileccmiomaaAgA
namespace Go.Proofs.Ytlccileccmiomaa
open Go.RowKit
set_option linter.unusedVariables false
set_option linter.unusedSimpArgs false

/-- A pile behind a pointer: the first field of block b. -/
structure Hp (w : World) (b g cap : Nat) (l : List Ent) (rest : List Value) (o : Value) : Prop where
  blk : Blk w b 45 [.slice (some ⟨g, 0, none⟩) l.length cap, o]
  pile : PileAt w g cap l rest
  ne : b ≠ g
namespace Hp
variable {w w1 : World} {b g cap : Nat} {l : List Ent} {rest : List Value} {o : Value} {S : Nat → Prop}
theorem below (h : Hp w b g cap l rest o) (hc : Below w.heap.size w w1) : Hp w1 b g cap l rest o := ⟨h.blk.below hc, h.pile.below hc, h.ne⟩
theorem drewN (h : Hp w b g cap l rest o) (n : Nat) : Hp (w.drewN n) b g cap l rest o := ⟨h.blk, h.pile.drewN n, h.ne⟩
theorem cell (h : Hp w b g cap l rest o) : w.cell? ⟨b, 0, none⟩ = some (.slice (some ⟨g, 0, none⟩) l.length cap) := h.blk.cell 0 _ rfl
/-- The pile's entries have been turned, in their own block. -/
theorem turned {l' : List Ent} (h : Hp w b g cap l rest o) (hp : PileAt w1 g cap l' rest) (hl : l'.length = l.length) (hc : Chg w w1 (fun k => k = g)) : Hp w1 b g cap l' rest o := ⟨by rw [hl]; exact h.blk.chg hc h.ne, hp, h.ne⟩
end Hp

theorem swapL_eq (l : List Ent) (i j : Nat) (hi : i < l.length) (hj : j < l.length) : swapL l i j hi hj = sw l i j := by unfold swapL sw; rw [gE_at hi, gE_at hj]
theorem meth_Len (b : Nat) (A : Option Addr) (n c : Nat) (w : World) (h : w.cell? ⟨b, 0, none⟩ = some (.slice A n c)) : (method 212 47 (.pointer (some ⟨b, 0, none⟩)) "Len").run Try.prog w = .ok (70, .slice A n c) w :=
  method_through (e := 43) (by kernel_rfl) Try.underlying47 211 _ _ w (by go_simp)
theorem meth_Less (b : Nat) (A : Option Addr) (n c : Nat) (w : World) (h : w.cell? ⟨b, 0, none⟩ = some (.slice A n c)) : (method 212 47 (.pointer (some ⟨b, 0, none⟩)) "Less").run Try.prog w = .ok (71, .slice A n c) w :=
  method_through (e := 43) (by kernel_rfl) Try.underlying47 211 _ _ w (by go_simp)
theorem meth_Swap (b : Nat) (A : Option Addr) (n c : Nat) (w : World) (h : w.cell? ⟨b, 0, none⟩ = some (.slice A n c)) : (method 212 47 (.pointer (some ⟨b, 0, none⟩)) "Swap").run Try.prog w = .ok (72, .slice A n c) w :=
  method_through (e := 43) (by kernel_rfl) Try.underlying47 211 _ _ w (by go_simp)
theorem meth_Push (a : Addr) (w : World) : (method 212 47 (.pointer (some a)) "Push").run Try.prog w = .ok (74, .pointer (some a)) w := by kernel_rfl
theorem meth_Pop (a : Addr) (w : World) : (method 212 47 (.pointer (some a)) "Pop").run Try.prog w = .ok (73, .pointer (some a)) w := by kernel_rfl

theorem up_any (b g cap : Nat) (l0 : List Ent) (rest : List Value) (o : Value) (j0 : Nat) (hj0 : j0 < l0.length) (hsm : l0.length < 1000000000000) (w : World) (h0 : Hp w b g cap l0 rest o) (hup : UpInv l0 j0) :
    Calls Try.prog 29 #[.iface 47 (.pointer (some ⟨b, 0, none⟩)), .int .i64 j0] w
      fun e w' => e = .returned (.tuple #[]) ∧ ∃ l, l.Perm l0 ∧ HeapFrom l 0 l.length ∧ Hp w' b g cap l rest o ∧ Chg w w' (fun k => k = g) := by
  have H0 := Lib.hid h0
  have HU := Lib.hid hup
  clear h0 hup
  go_enter Try.func29, Try.ntmps29
  go_wp2
  go_loopw [1] (fun v wr => ∃ (j : Nat) (l : List Ent), v = .int .i64 j ∧ j < l.length ∧ l.length ≤ l0.length ∧ Hid (l.Perm l0) ∧ Hid (UpInv l j) ∧ Hid (Hp wr b g cap l rest o) ∧ Hid (Chg w wr (fun k => k = g))) (fun v _ => (intOf v).toNat)
  case atStart => exact ⟨j0, l0, rfl, hj0, Nat.le_refl _, Lib.hid (List.Perm.refl _), HU, H0, Lib.hid (Chg.refl _ _)⟩
  case round =>
    obtain ⟨j, l, rfl, hj, hlen, HP, HI, HH, HC⟩ := hrel
    by_cases hz : j = 0
    · subst hz
      go_wp2
      go_end0
      exact ⟨rfl, l, HP.out, up_end HI.out (.inl rfl), HH.out, HC.out⟩
    · have hcell := HH.out.cell
      have hmL := meth_Less b (some ⟨g, 0, none⟩) l.length cap wr hcell
      have hne : (((j : Int) - 1) / 2 == (j : Int)) = false := by rw [beq_eq_false_iff_ne]; omega
      have hpn := Lib.hid (show ((j : Int) - 1) / 2 = (((j - 1) / 2 : Nat) : Int) by omega)
      go_wp2_with fail
      rw [hpn.out]
      refine (less_any g cap l rest j ((j - 1) / 2) hj (by omega) wr HH.out.pile).mono ?_
      rintro e w1 ⟨rfl, hb⟩
      generalize hd : decide (cmpE l[j] l[(j - 1) / 2] < 0) = d
      have HD := Lib.hid hd
      have HH1 := Lib.hid (HH.out.below hb)
      have HC1 := Lib.hid (HC.out.trans (Chg.of_below (S := fun _ => False) hb) (fun _ _ h => h.elim))
      clear hd hb hcell hmL HH HC
      have hcell := HH1.out.cell
      have hmS := meth_Swap b (some ⟨g, 0, none⟩) l.length cap w1 hcell
      cases d with
      | false =>
        go_wp2
        go_end0
        refine ⟨rfl, l, HP.out, up_end HI.out (.inr ?_), HH1.out, HC1.out⟩
        have h1 := of_decide_eq_false HD.out
        rw [cmpE_neg] at h1
        rw [gE_at (by omega), gE_at hj]
        exact Classical.not_not.1 h1
      | true =>
        go_wp2_with fail
        refine (swap_any g cap l rest ((j - 1) / 2) j (by omega) hj w1 HH1.out.pile).mono ?_
        rintro e w2 ⟨rfl, hp2, hc2⟩
        have HP2 := Lib.hid hp2
        have HC2 := Lib.hid hc2
        clear hp2 hc2
        go_wp2
        go_roundw
        case rel =>
          have hp3 := HP2.out
          rw [swapL_eq] at hp3
          refine ⟨(j - 1) / 2, sw l ((j - 1) / 2) j, by congr 1, by rw [sw_length]; omega, by rw [sw_length]; exact hlen, Lib.hid ((sw_perm l _ j (by omega) hj).trans HP.out), Lib.hid (up_step hj (by omega) HI.out ?_), Lib.hid (HH1.out.turned hp3 (sw_length _ _ _) HC2.out), Lib.hid (HC1.out.trans HC2.out (fun _ _ h => h))⟩
          have h1 := of_decide_eq_true HD.out
          rw [cmpE_neg] at h1
          rw [gE_at (by omega), gE_at hj]
          exact h1
        case measure => simp [intOf]; omega

/-! ### Push -/
theorem row_pile {w : World} {base g cap n : Nat} {l : List Ent} (h : w.ownsRow base 49 3 (.slice (some ⟨g, 0, none⟩) n cap) n (cellsOf l)) (hn : n = l.length) : base ≤ g ∧ ∃ rest, PileAt w g cap l rest := by
  obtain ⟨_, h2⟩ := h
  rcases h2 with ⟨h2, _⟩ | ⟨g', cap', cur, he, hb, hh, hle, hm, hs, ht⟩
  · cases h2
  · injection he with h1 h2 h3
    injection h1 with h1
    injection h1 with h1 _ _
    subst h1 h3
    rw [hn] at ht hle
    have hcl : cur.toList.length = cap * 3 := by rw [← hs]; exact Array.length_toList
    refine ⟨hb, cur.toList.drop (l.length * 3), ?_, hle, hm, ?_⟩
    · unfold Blk
      rw [← ht, List.take_append_drop]
      exact hh
    · rw [List.length_drop, hcl]; omega
theorem pile_row {w : World} {base g cap : Nat} {l : List Ent} {rest : List Value} (h : PileAt w g cap l rest) (hb : base ≤ g) : w.ownsRow base 49 3 (.slice (some ⟨g, 0, none⟩) l.length cap) l.length (cellsOf l) := by
  have hl := cellsOf_length l
  refine ⟨hl, .inr ⟨g, cap, (cellsOf l ++ rest).toArray, rfl, hb, h.blk, h.le, h.max, ?_, ?_⟩⟩
  · have := h.len; simp; omega
  · simp [← hl]

/-- An agenda's memory: block b, and the row of its pile. -/
structure Ag (w : World) (base b : Nat) (v o : Value) (l : List Ent) : Prop where
  blk : Blk w b 45 [v, o]
  row : w.ownsRow base 49 3 v l.length (cellsOf l)
  le : base ≤ b
  ne : v.ownBlock ≠ some b
/-- The blocks of an agenda. -/
def Foot (b : Nat) (v : Value) (k : Nat) : Prop := k = b ∨ some k = v.ownBlock
namespace Ag
variable {w w1 : World} {base b : Nat} {v o : Value} {l : List Ent} {S : Nat → Prop}
theorem chg (h : Ag w base b v o l) (hc : Chg w w1 S) (hn : ∀ k, Foot b v k → ¬ S k) : Ag w1 base b v o l := ⟨h.blk.chg hc (hn b (.inl rfl)), ownsRow_chg h.row hc (fun k hk => hn k (.inr hk.symm)), h.le, h.ne⟩
theorem below (h : Ag w base b v o l) (hb : Below w.heap.size w w1) : Ag w1 base b v o l := h.chg (Chg.of_below (S := fun _ => False) hb) (fun _ _ h => h)
theorem drewN (h : Ag w base b v o l) (n : Nat) : Ag (w.drewN n) base b v o l := ⟨h.blk, h.row, h.le, h.ne⟩
theorem alloc (h : Ag w base b v o l) (x : Obj) : Ag (w.alloc x) base b v o l := h.below ((Below.refl _ _).alloc (Nat.le_refl _) x)
theorem foot_lt (h : Ag w base b v o l) : ∀ k, Foot b v k → k < w.heap.size := by
  rintro k (rfl | hk)
  · exact h.blk.lt
  · exact (h.row.lt k hk.symm).2
theorem foot_ge (h : Ag w base b v o l) : ∀ k, Foot b v k → base ≤ k := by
  rintro k (rfl | hk)
  · exact h.le
  · exact (h.row.lt k hk.symm).1
/-- With at least one entry there is a row. -/
theorem hp (h : Ag w base b v o l) (h0 : 0 < l.length) : ∃ g cap rest, v = .slice (some ⟨g, 0, none⟩) l.length cap ∧ base ≤ g ∧ Hp w b g cap l rest o := by
  obtain ⟨g, cap, rfl, hg, _⟩ := h.row.form h0
  obtain ⟨_, rest, hp⟩ := row_pile h.row rfl
  exact ⟨g, cap, rest, rfl, hg, h.blk, hp, fun e => h.ne (by simp [Value.ownBlock, e])⟩
end Ag
theorem Hp.ag {w : World} {base b g cap : Nat} {l : List Ent} {rest : List Value} {o : Value} (h : Hp w b g cap l rest o) (hb : base ≤ b) (hg : base ≤ g) : Ag w base b (.slice (some ⟨g, 0, none⟩) l.length cap) o l :=
  ⟨h.blk, pile_row h.pile hg, hb, by simpa [Value.ownBlock] using fun e => h.ne e.symm⟩

theorem hpush_any (base b : Nat) (v o : Value) (l : List Ent) (x : Ent) (hsm : l.length < 100000000000) (w : World) (h0 : Ag w base b v o l) (hh : HeapFrom l 0 l.length) :
    Calls Try.prog 20 #[.iface 47 (.pointer (some ⟨b, 0, none⟩)), .iface 49 (.agg #[.int .i64 x.tm, .int .i64 x.ord, .int .i64 x.wh])] w
      fun e w' => e = .returned (.tuple #[]) ∧ ∃ v' l', Ag w' base b v' o l' ∧ HeapFrom l' 0 l'.length ∧ l'.Perm (l ++ [x]) ∧ (v'.ownBlock = v.ownBlock ∨ ∃ k, v'.ownBlock = some k ∧ w.heap.size ≤ k) ∧ Chg w w' (Foot b v) := by
  have H0 := Lib.hid h0
  have HH := Lib.hid hh
  clear h0 hh
  have hmP := meth_Push
  go_enter Try.func20, Try.ntmps20
  go_wp2_with fail
  refine (push_any b v l x o base w w H0.out.blk H0.out.row H0.out.le H0.out.ne (by omega)).mono ?_
  rintro e w1 ⟨rfl, v1, hb1, hr1, hat, hc1⟩
  obtain ⟨g, cap, rfl, hg, _⟩ := hr1.form (Nat.succ_pos _)
  obtain ⟨_, rest, hp1⟩ := row_pile hr1 (by simp)
  have hne : b ≠ g := by
    rcases hat with hat | ⟨k, hat, hk⟩
    · intro e; subst e; exact H0.out.ne (by rw [← hat]; rfl)
    · have := H0.out.blk.lt
      simp [Value.ownBlock] at hat
      omega
  have h1 : Hp w1 b g cap (l ++ [x]) rest o := ⟨by simpa using hb1, hp1, hne⟩
  have hcell := h1.cell
  have hlen : (l ++ [x]).length = l.length + 1 := by simp
  rw [hlen] at hcell
  have hmL := meth_Len b (some ⟨g, 0, none⟩) (l.length + 1) cap w1 hcell
  have HL := Lib.hid hlen
  have H1 := Lib.hid h1
  have HC1 := Lib.hid hc1
  have HA := Lib.hid hat
  clear hb1 hr1 hp1 h1 hc1 hat hlen hcell
  go_wp2_with (go_at_call 70; refine (len_any _ _ _ _).mono ?_; rintro e w' ⟨rfl, rfl⟩)
  refine (up_any b g cap (l ++ [x]) rest o l.length (by simp) (by simp; omega) w1 H1.out (up_start x HH.out)).mono ?_
  rintro e w2 ⟨rfl, l', hperm, hheap, hp', hc'⟩
  have HF := Lib.hid (And.intro hperm (And.intro hheap (And.intro hp' hc')))
  clear hperm hheap hp' hc'
  go_wp2
  go_end0
  obtain ⟨hperm, hheap, hp', hc'⟩ := HF.out
  refine ⟨rfl, _, l', hp'.ag H0.out.le hg, hheap, hperm, ?_, HC1.out.trans hc' ?_⟩
  · exact HA.out
  · rintro i hi rfl
    rcases HA.out with hat | ⟨k, hat, hk⟩
    · exact .inr (by rw [← hat]; rfl)
    · simp [Value.ownBlock] at hat; omega

/-! ### down -/
theorem less_b (b g cap : Nat) (l : List Ent) (rest : List Value) (o : Value) (x y : Int) (i j : Nat) (hx : x = i) (hy : y = j) (hi : i < l.length) (hj : j < l.length) (w : World) (h : Hp w b g cap l rest o) :
    Calls Try.prog 71 #[.slice (some ⟨g, 0, none⟩) l.length cap, .int .i64 x, .int .i64 y] w fun e w' => ∃ d : Bool, e = .returned (.bool d) ∧ Hid ((d = true ↔ ¬ (gE l j).le (gE l i)) ∧ Hp w' b g cap l rest o ∧ Below w.heap.size w w') ∧ (method 212 47 (.pointer (some ⟨b, 0, none⟩)) "Less").run Try.prog w' = .ok (71, .slice (some ⟨g, 0, none⟩) l.length cap) w' ∧ (method 212 47 (.pointer (some ⟨b, 0, none⟩)) "Swap").run Try.prog w' = .ok (72, .slice (some ⟨g, 0, none⟩) l.length cap) w' := by
  subst hx hy
  exact (less_any g cap l rest i j hi hj w h.pile).mono fun e w' ⟨he, hb⟩ => ⟨_, he, Lib.hid ⟨by rw [decide_eq_true_iff, cmpE_neg, gE_at hi, gE_at hj], h.below hb, hb⟩, meth_Less b _ _ _ w' (h.below hb).cell, meth_Swap b _ _ _ w' (h.below hb).cell⟩
theorem swap_b (b g cap : Nat) (l : List Ent) (rest : List Value) (o : Value) (x y : Int) (i j : Nat) (hx : x = i) (hy : y = j) (hi : i < l.length) (hj : j < l.length) (w : World) (h : Hp w b g cap l rest o) :
    Calls Try.prog 72 #[.slice (some ⟨g, 0, none⟩) l.length cap, .int .i64 x, .int .i64 y] w fun e w' => e = .returned (.tuple #[]) ∧ Hid (Hp w' b g cap (sw l i j) rest o ∧ Chg w w' (fun k => k = g)) := by
  subst hx hy
  exact (swap_any g cap l rest i j hi hj w h.pile).mono fun e w' ⟨he, hp, hc⟩ => ⟨he, Lib.hid ⟨h.turned (swapL_eq l i j hi hj ▸ hp) (sw_length _ _ _) hc, hc⟩⟩

def DownPost (w : World) (b g cap : Nat) (l0 : List Ent) (rest : List Value) (o : Value) (i0 n : Nat) (e : Ending) (w' : World) : Prop :=
  ∃ (d : Bool) (l : List Ent), e = .returned (.bool d) ∧ l.Perm l0 ∧ HeapFrom l i0 n ∧ (∀ k, n ≤ k → gE l k = gE l0 k) ∧ Hp w' b g cap l rest o ∧ Chg w w' (fun k => k = g)
set_option maxRecDepth 100000 in
set_option maxHeartbeats 2000000 in
theorem down_any (b g cap : Nat) (l0 : List Ent) (rest : List Value) (o : Value) (i0 n : Nat) (hn : n ≤ l0.length) (hi0 : i0 ≤ l0.length) (hsm : l0.length < 1000000000000) (w : World) (h0 : Hp w b g cap l0 rest o) (hd : HeapFrom l0 (i0 + 1) n) :
    Calls Try.prog 30 #[.iface 47 (.pointer (some ⟨b, 0, none⟩)), .int .i64 i0, .int .i64 n] w
      (DownPost w b g cap l0 rest o i0 n) := by
  have H0 := Lib.hid h0
  have HU := Lib.hid (down_start hd)
  clear h0 hd
  go_enter Try.func30, Try.ntmps30
  go_wp2
  go_loopw [7] (fun v wr => ∃ (i : Nat) (l : List Ent), v = .int .i64 i ∧ i0 ≤ i ∧ i ≤ l.length ∧ l.length = l0.length ∧ Hid (l.Perm l0 ∧ DownInv l i0 i n ∧ (∀ k, n ≤ k → gE l k = gE l0 k) ∧ Hp wr b g cap l rest o ∧ Chg w wr (fun k => k = g))) (fun v _ => n - (intOf v).toNat)
  case atStart => exact ⟨i0, l0, rfl, Nat.le_refl _, hi0, rfl, Lib.hid ⟨List.Perm.refl _, HU.out, fun _ _ => rfl, H0.out, Chg.refl _ _⟩⟩
  case round =>
    obtain ⟨i, l, rfl, hi, hil, hlen', HI⟩ := hrel
    have hlen := Nat.le_of_eq hlen'
    have hlen2 := Nat.le_of_eq hlen'.symm
    clear hlen'
    have hmL := meth_Less b (some ⟨g, 0, none⟩) l.length cap wr HI.out.2.2.2.1.cell
    have hmS := meth_Swap b (some ⟨g, 0, none⟩) l.length cap wr HI.out.2.2.2.1.cell
    by_cases hA : 2 * i + 1 < n
    · by_cases hB : 2 * i + 2 < n
      · go_wp2_with fail
        refine (less_b b g cap l rest o _ _ (2 * i + 2) (2 * i + 1) (by omega) (by omega) (by omega) (by omega) wr HI.out.2.2.2.1).mono ?_
        rintro e w1 ⟨d1, rfl, HL1, hmL1, hmS1⟩
        clear hmL hmS
        have hmL := hmL1
        have hmS := hmS1
        clear hmL1 hmS1
        have HL1' := HL1.out
        clear HL1
        cases d1
        · have HM : Hid (∀ k, 0 < k → k < n → (k - 1) / 2 = i → (gE l (2 * i + 1)).le (gE l k)) := by
            refine Lib.hid fun k k0 k1 e => ?_
            have hle := Classical.not_not.1 (fun h => Bool.false_ne_true (HL1'.1.2 h))
            rcases (by omega : k = 2 * i + 1 ∨ k = 2 * i + 2) with rfl | rfl
            · exact le_refl' _
            · exact hle
          have HL1 := Lib.hid (And.intro trivial (And.intro HL1'.2.1 (Chg.of_below (S := fun k => k = g) HL1'.2.2)))
          clear HL1'
          go_wp2_with fail
          refine (less_b b g cap l rest o _ _ (2 * i + 1) i (by omega) rfl (by omega) (by omega) _ HL1.out.2.1).mono ?_
          rintro e w2 ⟨d2, rfl, HL2, hmL2, hmS2⟩
          cases d2
          · go_wp2
            go_ret
            have hle := Classical.not_not.1 (fun h => by have h2 := HL2.out.1; first | exact Bool.false_ne_true (h2.2 h) | exact h2.2 h)
            exact ⟨_, l, rfl, HI.out.1, down_end HI.out.2.1 (fun k k0 k1 e => le_trans' hle (HM.out k k0 k1 e)), HI.out.2.2.1, HL2.out.2.1, (HI.out.2.2.2.2.trans HL1.out.2.2 (fun _ _ h => h)).trans (Chg.of_below (S := fun _ => False) HL2.out.2.2) (fun _ _ h => h.elim)⟩
          · go_wp2_with fail
            refine (swap_b b g cap l rest o _ _ i (2 * i + 1) rfl (by omega) (by omega) (by omega) _ HL2.out.2.1).mono ?_
            rintro e w3 ⟨rfl, HS⟩
            go_wp2
            go_roundw
            case rel =>
              refine ⟨(2 * i + 1), sw l i ((2 * i + 1)), by congr 1, by omega, by rw [sw_length]; omega, by rw [sw_length]; omega, Lib.hid ⟨(sw_perm l i _ (by omega) (by omega)).trans HI.out.1, down_step (by omega) (by omega) (by omega) (by omega) hi HI.out.2.1 HM.out (by have h := HL2.out.1; first | exact h.1 rfl | exact h.1 trivial | simpa using h), ?_, HS.out.1, ((HI.out.2.2.2.2.trans HL1.out.2.2 (fun _ _ h => h)).trans (Chg.of_below (S := fun _ => False) HL2.out.2.2) (fun _ _ h => h.elim)).trans HS.out.2 (fun _ _ h => h)⟩⟩
              intro k hk
              rw [gE_sw l i _ k (by omega) (by omega), if_neg (by omega), if_neg (by omega)]
              exact HI.out.2.2.1 k hk
            case measure => simp [intOf]; omega
        · have HM : Hid (∀ k, 0 < k → k < n → (k - 1) / 2 = i → (gE l (2 * i + 2)).le (gE l k)) := by
            refine Lib.hid fun k k0 k1 e => ?_
            have hle := le_total' (HL1'.1.1 rfl)
            rcases (by omega : k = 2 * i + 1 ∨ k = 2 * i + 2) with rfl | rfl
            · exact hle
            · exact le_refl' _
          have HL1 := Lib.hid (And.intro trivial (And.intro HL1'.2.1 (Chg.of_below (S := fun k => k = g) HL1'.2.2)))
          clear HL1'
          go_wp2_with fail
          refine (less_b b g cap l rest o _ _ (2 * i + 2) i (by omega) rfl (by omega) (by omega) _ HL1.out.2.1).mono ?_
          rintro e w2 ⟨d2, rfl, HL2, hmL2, hmS2⟩
          cases d2
          · go_wp2
            go_ret
            have hle := Classical.not_not.1 (fun h => by have h2 := HL2.out.1; first | exact Bool.false_ne_true (h2.2 h) | exact h2.2 h)
            exact ⟨_, l, rfl, HI.out.1, down_end HI.out.2.1 (fun k k0 k1 e => le_trans' hle (HM.out k k0 k1 e)), HI.out.2.2.1, HL2.out.2.1, (HI.out.2.2.2.2.trans HL1.out.2.2 (fun _ _ h => h)).trans (Chg.of_below (S := fun _ => False) HL2.out.2.2) (fun _ _ h => h.elim)⟩
          · go_wp2_with fail
            refine (swap_b b g cap l rest o _ _ i (2 * i + 2) rfl (by omega) (by omega) (by omega) _ HL2.out.2.1).mono ?_
            rintro e w3 ⟨rfl, HS⟩
            go_wp2
            go_roundw
            case rel =>
              refine ⟨(2 * i + 2), sw l i ((2 * i + 2)), by congr 1, by omega, by rw [sw_length]; omega, by rw [sw_length]; omega, Lib.hid ⟨(sw_perm l i _ (by omega) (by omega)).trans HI.out.1, down_step (by omega) (by omega) (by omega) (by omega) hi HI.out.2.1 HM.out (by have h := HL2.out.1; first | exact h.1 rfl | exact h.1 trivial | simpa using h), ?_, HS.out.1, ((HI.out.2.2.2.2.trans HL1.out.2.2 (fun _ _ h => h)).trans (Chg.of_below (S := fun _ => False) HL2.out.2.2) (fun _ _ h => h.elim)).trans HS.out.2 (fun _ _ h => h)⟩⟩
              intro k hk
              rw [gE_sw l i _ k (by omega) (by omega), if_neg (by omega), if_neg (by omega)]
              exact HI.out.2.2.1 k hk
            case measure => simp [intOf]; omega
      · have HM : Hid (∀ k, 0 < k → k < n → (k - 1) / 2 = i → (gE l (2 * i + 1)).le (gE l k)) := by
          refine Lib.hid fun k k0 k1 e => ?_
          obtain rfl : k = 2 * i + 1 := by omega
          exact le_refl' _
        have HL1 := Lib.hid (And.intro trivial (And.intro HI.out.2.2.2.1 (Chg.refl wr (fun k => k = g))))
        go_wp2_with fail
        refine (less_b b g cap l rest o _ _ (2 * i + 1) i (by omega) rfl (by omega) (by omega) _ HL1.out.2.1).mono ?_
        rintro e w2 ⟨d2, rfl, HL2, hmL2, hmS2⟩
        cases d2
        · go_wp2
          go_ret
          have hle := Classical.not_not.1 (fun h => by have h2 := HL2.out.1; first | exact Bool.false_ne_true (h2.2 h) | exact h2.2 h)
          exact ⟨_, l, rfl, HI.out.1, down_end HI.out.2.1 (fun k k0 k1 e => le_trans' hle (HM.out k k0 k1 e)), HI.out.2.2.1, HL2.out.2.1, (HI.out.2.2.2.2.trans HL1.out.2.2 (fun _ _ h => h)).trans (Chg.of_below (S := fun _ => False) HL2.out.2.2) (fun _ _ h => h.elim)⟩
        · go_wp2_with fail
          refine (swap_b b g cap l rest o _ _ i (2 * i + 1) rfl (by omega) (by omega) (by omega) _ HL2.out.2.1).mono ?_
          rintro e w3 ⟨rfl, HS⟩
          go_wp2
          go_roundw
          case rel =>
            refine ⟨(2 * i + 1), sw l i ((2 * i + 1)), by congr 1, by omega, by rw [sw_length]; omega, by rw [sw_length]; omega, Lib.hid ⟨(sw_perm l i _ (by omega) (by omega)).trans HI.out.1, down_step (by omega) (by omega) (by omega) (by omega) hi HI.out.2.1 HM.out (by have h := HL2.out.1; first | exact h.1 rfl | exact h.1 trivial | simpa using h), ?_, HS.out.1, ((HI.out.2.2.2.2.trans HL1.out.2.2 (fun _ _ h => h)).trans (Chg.of_below (S := fun _ => False) HL2.out.2.2) (fun _ _ h => h.elim)).trans HS.out.2 (fun _ _ h => h)⟩⟩
            intro k hk
            rw [gE_sw l i _ k (by omega) (by omega), if_neg (by omega), if_neg (by omega)]
            exact HI.out.2.2.1 k hk
          case measure => simp [intOf]; omega
    · go_wp2
      go_ret
      exact ⟨_, l, rfl, HI.out.1, down_end HI.out.2.1 (fun k k0 k1 e => by omega), HI.out.2.2.1, HI.out.2.2.2.1, HI.out.2.2.2.2⟩
end Go.Proofs.Ytlccileccmiomaa
