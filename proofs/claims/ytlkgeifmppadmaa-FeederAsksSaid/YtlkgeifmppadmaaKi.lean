/- A new feeder. Conditions: as each theorem states them. -/
import Derived.Test.YtlkgeifmppadmaaKh
import Derived.Test.YtlkgeifmppadmaaKe
import Derived.Laws.MakeOwn
namespace Go.Proofs.Ytlkgeifmppadmaa
open Go.RowKit
set_option linter.unusedVariables false
set_option linter.unusedSimpArgs false

def zSg : SgD := ⟨⟨0, []⟩, ⟨0, [], []⟩⟩
/-- A feeder that was told nothing. -/
def fdNew (p : PolD) (retry : Int) : FdD := ⟨p, retry, [], 0, List.replicate p.wits.length ⟨0, 0, false⟩, zSg, false, [], zSg, []⟩
theorem info_state : (Try.prog.info? 87).map (fun i => (i.zero, i.size, i.bytes)) = some (some (.agg #[.int .i64 0, .int .i64 0, .bool false]), 3, 24) := by kernel_rfl
theorem made_state (n : Nat) (h : n ≤ 4) : madeCells (Value.agg #[.int .i64 0, .int .i64 0, .bool false]).cells (n * 3) = (cellsW (List.replicate n ⟨0, 0, false⟩)).toArray := by
  obtain rfl | rfl | rfl | rfl | rfl : n = 0 ∨ n = 1 ∨ n = 2 ∨ n = 3 ∨ n = 4 := by omega
  all_goals kernel_rfl
theorem make_state (n : Nat) (h : n ≤ 4) (w : World) : (Instr.makeSlice 74 (.int .i64 n) (.int .i64 n)).run Try.prog w = .ok (.slice (some ⟨w.heap.size, 0, none⟩) n n) (w.alloc (.cells (cellsW (List.replicate n ⟨0, 0, false⟩)).toArray 87)) := by
  obtain ⟨i0, hi0, hz0, hz1, hz2⟩ := info_parts info_state
  have hr := run_make (P := Try.prog) w 74 87 i0 _ Try.underlying74 hi0 hz0 .i64 .i64 n n (by omega) (Int.le_refl _) (by rw [hz2]; omega) (by omega)
  rw [hz1] at hr
  simp only [Int.toNat_natCast] at hr
  rw [made_state n h] at hr
  exact hr
/-- What stands when a feeder is built. -/
def NewSt (w W : World) (LB A : Nat) (lv wv : Value) (p : PolD) : Prop :=
  Below w.heap.size w W ∧ BysF (fun g => w.heap.size ≤ g ∧ g < W.heap.size ∧ g ≠ LB ∧ g ≠ A) W lv p.log ∧ RwsF (fun g => w.heap.size ≤ g ∧ g < W.heap.size ∧ g ≠ LB ∧ g ≠ A) W wv p.wits ∧ AgS W A A (.slice none 0 0) [] 0 ∧ Blk W LB 87 (cellsW (List.replicate p.wits.length ⟨0, 0, false⟩)) ∧ LB ≠ A ∧ w.heap.size ≤ LB ∧ w.heap.size ≤ A
def zeroR (base kb lb ab : Nat) (lv wv : Value) : FdR := ⟨base, kb, lb, ab, .slice none 0 0, .slice none 0 0, .slice none 0 0, lv, wv, .slice none 0 0, .slice none 0 0, .slice none 0 0, .slice none 0 0, .slice none 0 0, .slice none 0 0⟩
theorem bysF_nil (S : Nat → Prop) (w : World) : BysF S w (.slice none 0 0) [] := ⟨Sho.nil w 1, fun h => absurd h (Nat.lt_irrefl _)⟩
theorem rwsF_nil (S : Nat → Prop) (w : World) : RwsF S w (.slice none 0 0) [] := ⟨[], Sho.nil w 1, fun h => absurd h (Nat.lt_irrefl _), fun i h => absurd h (Nat.not_lt_zero _)⟩
theorem new_ok {w W : World} {LB A : Nat} {lv wv : Value} {p : PolD} {retry : Int} (h : NewSt w W LB A lv wv p) (W2 : World) (hW2 : W2 = W.alloc (.cells (fdCells (fdNew p retry) (zeroR A W.heap.size LB A lv wv)).toArray 76)) :
    FdAt (Fresh w W2) W2 W.heap.size (fdNew p retry) ∧ Below w.heap.size w W2 := by
  obtain ⟨h1, h2, h3, h4, h5, h6, h7, h8⟩ := h
  have hb : Below W.heap.size W W2 := by rw [hW2]; exact (Below.refl _ _).alloc (Nat.le_refl _) _
  have hblk : Blk W2 W.heap.size 76 (fdCells (fdNew p retry) (zeroR A W.heap.size LB A lv wv)) := by rw [hW2]; exact Blk.new W _ _
  have hsz : W2.heap.size = W.heap.size + 1 := by rw [hW2]; simp
  have hA := h4.blk.lt
  have hL := h5.lt
  have hw := h1.size
  refine ⟨⟨zeroR A W.heap.size LB A lv wv, [], [], ?_⟩, h1.trans (hb.mono hw)⟩
  have hft : ∀ k, Foot A (.slice none 0 0) k → k = A := fun k hk => by
    rcases hk with hk | hk
    · exact hk
    · exact absurd hk (by simp [Value.ownBlock])
  have hM : ∀ k, FdM W.heap.size (zeroR A W.heap.size LB A lv wv) k → k = W.heap.size ∨ k = LB ∨ k = A := fun k hk => by
    rcases hk with hk | hk | hk | hk
    · exact .inl hk
    · exact .inr (.inl hk)
    · exact absurd hk (by simp [zeroR, Value.ownBlock])
    · exact .inr (.inr (hft k hk))
  have hD : ∀ g, w.heap.size ≤ g ∧ g < W.heap.size ∧ g ≠ LB ∧ g ≠ A → FdDat (Fresh w W2) W.heap.size (zeroR A W.heap.size LB A lv wv) g := fun g hg => ⟨⟨hg.1, by omega⟩, fun e => by
    rcases hM g e with e | e | e
    · have := hg.2.1; omega
    · exact hg.2.2.1 e
    · exact hg.2.2.2 e⟩
  refine ⟨hblk, h5.below hb, h4.below hb, World.ownsRow_nil _ _ _ _, by show W.heap.size ≤ _; omega, by show A ≤ _; omega, ⟨(h2.below hb).mono hD, (h3.below hb).mono hD, bysF_nil _ _, rwsF_nil _ _, rwsF_nil _ _, bysF_nil _ _, rwsF_nil _ _, rwsF_nil _ _, CgRow.nil _ _, Sho.nil _ _, fun h => absurd h (Nat.lt_irrefl _), CgRow.nil _ _⟩, by show W.heap.size ≠ LB; omega, by simp [zeroR, Value.ownBlock], by simp [zeroR, Value.ownBlock], fun e => by have := hft _ e; omega, fun e => h6 (hft _ e), fun k hk => absurd hk (by simp [zeroR, Value.ownBlock]), fun k hk => ?_⟩
  rcases hM k hk with e | e | e
  · exact ⟨by omega, by omega⟩
  · exact ⟨by omega, by omega⟩
  · exact ⟨by omega, by omega⟩
theorem polB_facts {p : PolD} (h : polB p = true) : p.log.length = 32 ∧ 1 ≤ p.wits.length ∧ p.wits.length ≤ 4 ∧ 1 ≤ p.quorum ∧ p.quorum ≤ (p.wits.length : Int) ∧ witsN p.wits p.wits.length = true := by
  simp only [polB, Bool.and_eq_true, decide_eq_true_eq] at h
  obtain ⟨⟨⟨⟨⟨h1, h2⟩, h3⟩, h4⟩, h5⟩, h6⟩ := h
  exact ⟨h1, h2, h3, h4, h5, h6⟩
def NewPost (w : World) (p : PolD) (retry : Int) (e : Ending) (w' : World) : Prop :=
  ∃ f Z, e = .returned (.tuple #[.pointer (some ⟨f, 0, none⟩), .int .i64 0]) ∧ FdAt Z w' f (fdNew p retry) ∧ (∀ g, Z g → w.heap.size ≤ g ∧ g < w'.heap.size) ∧ Below w.heap.size w w'
set_option maxRecDepth 100000 in
set_option maxHeartbeats 4000000 in
theorem fnew_no (v : Value) (p : PolD) (retry : Int) (hs : SmallPol p) (hbad : polB p = false ∨ retry < 1 ∨ 100 < retry) (w : World) (hv : PolV w v p) :
    Calls Try.prog 8 #[v, .int .i64 retry] w fun e w' => e = .returned (.tuple #[.pointer none, .int .i64 1]) ∧ Below w.heap.size w w' := by
  have HR := Lib.hid (fun (wz : World) (v : Value) (hz : PolV wz v p) => coright_any v p hs.1 hs.2.1 hs.2.2.2 wz hz)
  obtain ⟨l, ws, rfl, h1, h2⟩ := hv
  obtain ⟨L, cl, rfl⟩ := h1.form
  obtain ⟨R, cr, rfl⟩ := h2.form
  have HX := Lib.hid (And.intro h1 h2)
  have HW := Lib.hid ((Below.refl w.heap.size w).alloc (Nat.le_refl _) (.cells #[.slice L p.log.length cl, .slice R p.wits.length cr, .int .i64 p.quorum] 33))
  have HB := Lib.hid hbad
  clear h1 h2 hs hbad
  go_enter Try.func8, Try.ntmps8
  go_wp2_with fail
  refine (HR.out _ _ ⟨_, _, rfl, HX.out.1.below HW.out, HX.out.2.below HW.out⟩).mono ?_
  rintro e w1 ⟨rfl, h1⟩
  have H1 := Lib.hid (HW.out.trans (h1.mono (by simp)))
  clear h1
  cases hpb : polB p with
  | false =>
    go_wp2
    go_ret2
    exact ⟨rfl, H1.out⟩
  | true =>
    by_cases c1 : retry < 1
    · go_wp2
      go_ret2
      exact ⟨rfl, H1.out⟩
    · have c2 : 100 < retry := by
        rcases HB.out with h | h | h
        · rw [hpb] at h; cases h
        · exact absurd h c1
        · exact h
      go_wp2
      go_ret2
      exact ⟨rfl, H1.out⟩
set_option maxRecDepth 100000 in
set_option maxHeartbeats 8000000 in
theorem fnew_yes (v : Value) (p : PolD) (retry : Int) (hs : SmallPol p) (hpb : polB p = true) (hr1 : 1 ≤ retry) (hr2 : retry ≤ 100) (w : World) (hv : PolV w v p) :
    Calls Try.prog 8 #[v, .int .i64 retry] w (NewPost w p retry) := by
  have HR := Lib.hid (fun (wz : World) (v : Value) (hz : PolV wz v p) => coright_any v p hs.1 hs.2.1 hs.2.2.2 wz hz)
  rw [hpb] at HR
  have HP := Lib.hid (fun (wz : World) (v : Value) (hz : PolV wz v p) => fpolicy_any v p hs wz hz)
  obtain ⟨g1, g2, g3, -⟩ := polB_facts hpb
  obtain ⟨l, ws, rfl, h1, h2⟩ := hv
  obtain ⟨L, cl, rfl⟩ := h1.form
  obtain ⟨R, cr, rfl⟩ := h2.form
  have HX := Lib.hid (And.intro h1 h2)
  have hk0 := Blk.new w 33 [.slice L p.log.length cl, .slice R p.wits.length cr, .int .i64 p.quorum]
  have hb0 := (Below.refl w.heap.size w).alloc (Nat.le_refl _) (.cells #[.slice L p.log.length cl, .slice R p.wits.length cr, .int .i64 p.quorum] 33)
  have HW := Lib.hid (And.intro hk0 hb0)
  clear h1 h2 hs hpb hk0 hb0 g1
  go_enter Try.func8, Try.ntmps8
  go_wp2_with fail
  refine (HR.out _ _ ⟨_, _, rfl, HX.out.1.below HW.out.2, HX.out.2.below HW.out.2⟩).mono ?_
  rintro e w1 ⟨rfl, h1⟩
  have H1 := Lib.hid (And.intro (HW.out.1.below h1) (HW.out.2.trans (h1.mono (by simp))))
  have hsz1 : w.heap.size < w1.heap.size := H1.out.1.lt
  have c0 := H1.out.1.cell 0 _ rfl
  have c1 := H1.out.1.cell 1 _ rfl
  have c2 := H1.out.1.cell 2 _ rfl
  clear h1
  go_wp2
  have hmk := fun v : World => make_state p.wits.length g3 v
  refine wp_region_held_drew (S := fun w' => w'.cell? ⟨w.heap.size, 0, none⟩ = some (.slice L p.log.length cl) ∧ w'.cell? ⟨w.heap.size, 1, none⟩ = some (.slice R p.wits.length cr) ∧ w'.cell? ⟨w.heap.size, 2, none⟩ = some (.int .i64 p.quorum)) (by kernel_rfl) ?_ (fun hHeld => ?_)
  · exact ⟨c0, c1, c2⟩
  refine take_yes 0 17 rfl rfl (by kernel_rfl) (by kernel_rfl) (by kernel_rfl) (fun _ _ _ h => h) (by assumption) (by rfl) (v := ?_) ?_ ?_
  rotate_left 1
  · (intro w hSw; (try dsimp only at hSw); go_simp; try with_reducible rfl)
  simp only [List.setIfInBounds_toArray, List.set_cons_zero, List.set_cons_succ]
  refine take_yes 2 19 rfl rfl (by kernel_rfl) (by kernel_rfl) (by kernel_rfl) (fun _ _ _ h => h) (by assumption) (by rfl) (v := ?_) ?_ ?_
  rotate_left 1
  · (intro w hSw; (try dsimp only at hSw); go_simp; try with_reducible rfl)
  simp only [List.setIfInBounds_toArray, List.set_cons_zero, List.set_cons_succ]
  refine take_yes 4 21 rfl rfl (by kernel_rfl) (by kernel_rfl) (by kernel_rfl) (fun _ _ _ h => h) (by assumption) (by rfl) (v := ?_) ?_ ?_
  rotate_left 1
  · (intro w hSw; (try dsimp only at hSw); go_simp; try with_reducible rfl)
  simp only [List.setIfInBounds_toArray, List.set_cons_zero, List.set_cons_succ]
  refine take_yes 5 22 rfl rfl (by kernel_rfl) (by kernel_rfl) (by kernel_rfl) (fun _ _ _ h => h) (by assumption) (by rfl) (v := ?_) ?_ ?_
  rotate_left 1
  · (intro w hSw; (try dsimp only at hSw); go_simp; try with_reducible rfl)
  simp only [List.setIfInBounds_toArray, List.set_cons_zero, List.set_cons_succ]
  refine take_yes 6 23 rfl rfl (by kernel_rfl) (by kernel_rfl) (by kernel_rfl) (fun _ _ _ h => h) (by assumption) (by rfl) (v := ?_) ?_ ?_
  rotate_left 1
  · (intro w hSw; (try dsimp only at hSw); go_simp; try with_reducible rfl)
  simp only [List.setIfInBounds_toArray, List.set_cons_zero, List.set_cons_succ]
  refine wpAnyH_ready (rs := [1, 7]) (by kernel_rfl) (by simp) ?_
  refine AllReadyH.cons rfl (fun K hK => ?w3_1) (AllReadyH.cons rfl (fun K hK => ?w3_7) AllReadyH.nil)
  case' w3_7 =>
    -- 7:  dst := some 24, op := Op.makeSlice 74 (Operand.tmp 23) (Operand.tmp 23), type := 74
    go_simp
    have hbl := ((Below.refl w1.heap.size w1).alloc (Nat.le_refl _) (.cells (cellsW (List.replicate p.wits.length ⟨0, 0, false⟩)).toArray 87)).drew
    have hkl : Blk (w1.alloc (.cells (cellsW (List.replicate p.wits.length ⟨0, 0, false⟩)).toArray 87)).drew w1.heap.size 87 (cellsW (List.replicate p.wits.length ⟨0, 0, false⟩)) := (Blk.new w1 87 (cellsW (List.replicate p.wits.length ⟨0, 0, false⟩))).drew
    have HBL := Lib.hid (And.intro hbl hkl)
    clear hbl hkl
    refine hK.out _ _ ⟨by go_keep, by go_keep, by go_keep⟩ (fun hHeld7 => ?_)
    clear hK K
    try simp only [Act.put, List.setIfInBounds_toArray, List.set_cons_zero, List.set_cons_succ]
    refine wpAnyH_ready (rs := [1]) (by kernel_rfl) (by simp) ?_
    refine AllReadyH.cons rfl (fun K hK => ?_) AllReadyH.nil
    -- 1:  dst := some 18, op := Op.call  callee := Callee.value (Operand.func 26), args := #[Operand.tmp 17], argTypes := #[33] , type :
    go_simp
    go_at_call 26
    have hbb : Below w1.heap.size w1 ((w1.alloc (.cells (cellsW (List.replicate p.wits.length ⟨0, 0, false⟩)).toArray 87)).drew) := HBL.out.1
    refine (HP.out _ _ ⟨_, _, rfl, HX.out.1.below (H1.out.2.trans (hbb.mono H1.out.2.size)), HX.out.2.below (H1.out.2.trans (hbb.mono H1.out.2.size))⟩).mono ?_
    rintro e w2 ⟨v2, rfl, ⟨lv, wv, rfl, h2, h3⟩, h4⟩
    obtain ⟨A2, n2, rfl⟩ := h2.1.form
    obtain ⟨A3, n3, rfl⟩ := h3.rws.form
    have hb2 : Below w1.heap.size w1 w2 := hbb.trans (h4.mono hbb.size)
    have k0 := H1.out.1.below hb2
    have e0 := k0.cell 0 _ rfl
    have e1 := k0.cell 1 _ rfl
    have e2 := k0.cell 2 _ rfl
    have hbw2 : w.heap.size < w2.heap.size := k0.lt
    have hgz : ((w1.alloc (.cells (cellsW (List.replicate p.wits.length ⟨0, 0, false⟩)).toArray 87)).drew).heap.size ≤ w2.heap.size := h4.size
    have hfs : (w1.alloc (.cells (cellsW (List.replicate p.wits.length ⟨0, 0, false⟩)).toArray 87)).drew.heap.size = w1.heap.size + 1 := by show (w1.alloc _).heap.size = _; simp
    have H2 := Lib.hid (And.intro (h2.mono (T := fun g => w1.heap.size + 1 ≤ g ∧ g < w2.heap.size) (fun g hg => ⟨by have := hg.1; rw [hfs] at this; exact this, hg.2⟩)) (And.intro (h3.mono (T := fun g => w1.heap.size + 1 ≤ g ∧ g < w2.heap.size) (fun g hg => ⟨by have := hg.1; rw [hfs] at this; exact this, hg.2⟩)) (And.intro hb2 (And.intro k0 (HBL.out.2.below h4)))))
    have hl2 : w1.heap.size + 1 ≤ w2.heap.size := by rw [← hfs]; exact hgz
    clear h2 h3 h4 hb2 k0 hbb hfs hgz
    go_wp2_with fail
    refine hK.out _ _ ⟨e0, e1, e2⟩ (fun hHeld1 => ?_)
    clear hK K
    try simp only [Act.put, List.setIfInBounds_toArray, List.set_cons_zero, List.set_cons_succ]
    refine wpAnyH_ready (rs := [3]) (by kernel_rfl) (by simp) ?_
    refine AllReadyH.cons rfl (fun K hK => ?_) AllReadyH.nil
    -- 3:  dst := some 20, op := Op.call  callee := Callee.value (Operand.func 27), args := #[], argTypes := #[] , type := 72
    go_simp
    go_at_call 27
    refine (new_any w2).mono ?_
    rintro e w3 ⟨rfl, h5, h6⟩
    have k0 := H2.out.2.2.2.1.below h6
    have i0 := k0.cell 0 _ rfl
    have i1 := k0.cell 1 _ rfl
    have i2 := k0.cell 2 _ rfl
    have H3 := Lib.hid (And.intro h5 h6)
    clear h5 h6 k0
    go_wp2_with fail
    refine hK.out _ _ ⟨i0, i1, i2⟩ (fun hHeld3 => ?_)
    clear hK K
    try simp only [Act.put, List.setIfInBounds_toArray, List.set_cons_zero, List.set_cons_succ]
    refine take_yes 8 25 rfl rfl (by kernel_rfl) (by kernel_rfl) (by kernel_rfl) (fun _ _ _ h => h) (by assumption) (by rfl) (v := ?_) ?_ ?_
    rotate_left 1
    · (intro w hSw; (try dsimp only at hSw); go_simp; try with_reducible rfl)
    simp only [List.setIfInBounds_toArray, List.set_cons_zero, List.set_cons_succ]
    refine wpAnyH_ready (rs := [9]) (by kernel_rfl) (by simp) ?_
    refine AllReadyH.cons rfl (fun K hK => ?_) AllReadyH.nil
    -- 9:  dst := some 26, op := Op.box 76 (Operand.tmp 25), type := 26
    go_simp
    have hz := H2.out.2.2.1.size
    have hz3 := H3.out.2.size
    have hA3 := H3.out.1.blk.lt
    have HS : Hid (NewSt w w3 w1.heap.size w2.heap.size (.slice A2 p.log.length n2) (.slice A3 p.wits.length n3) p) := Lib.hid ⟨(H1.out.2.trans (H2.out.2.2.1.mono H1.out.2.size)).trans (H3.out.2.mono (by omega)), (H2.out.1.below H3.out.2).mono (fun g hg => ⟨by have := hg.1; omega, by have := hg.2; omega, by have := hg.1; have := hg.2; omega, by have := hg.1; have := hg.2; omega⟩), (H2.out.2.1.below H3.out.2).mono (fun g hg => ⟨by have := hg.1; omega, by have := hg.2; omega, by have := hg.1; have := hg.2; omega, by have := hg.1; have := hg.2; omega⟩), H3.out.1, H2.out.2.2.2.2.below H3.out.2, by omega, by omega, by omega⟩
    refine hK.out _ _ ⟨by go_keep, by go_keep, by go_keep⟩ (fun hHeld9 => ?_)
    clear hK K
    try simp only [Act.put, List.setIfInBounds_toArray, List.set_cons_zero, List.set_cons_succ]
    refine take_yes 10 4 rfl rfl (by kernel_rfl) (by kernel_rfl) (by kernel_rfl) (fun _ _ _ h => h) (by assumption) (by rfl) (v := ?_) ?_ ?_
    rotate_left 1
    · (intro w hSw; (try dsimp only at hSw); go_simp; try with_reducible rfl)
    simp only [List.setIfInBounds_toArray, List.set_cons_zero, List.set_cons_succ]
    refine take_yes 11 5 rfl rfl (by kernel_rfl) (by kernel_rfl) (by kernel_rfl) (fun _ _ _ h => h) (by assumption) (by rfl) (v := ?_) ?_ ?_
    rotate_left 1
    · (intro w hSw; (try dsimp only at hSw); go_simp; try with_reducible rfl)
    simp only [List.setIfInBounds_toArray, List.set_cons_zero, List.set_cons_succ]
    refine wpAnyH_done (by kernel_rfl) ?_ _
    have HN := Lib.hid (new_ok (retry := retry) HS.out ((w3).alloc (.cells #[.slice A2 p.log.length n2, .slice A3 p.wits.length n3, .int .i64 p.quorum, .int .i64 retry, .pointer (some ⟨w2.heap.size, 0, none⟩), .slice (some ⟨w1.heap.size, 0, none⟩) p.wits.length p.wits.length, .int .i64 0, .slice none 0 0, .int .i64 0, .slice none 0 0, .slice none 0 0, .bool false, .slice none 0 0, .int .i64 0, .slice none 0 0, .int .i64 0, .slice none 0 0, .slice none 0 0, .slice none 0 0] 76)) (by simp [fdCells, fdNew, zeroR, zSg]))
    go_wp2
    go_ret2
    exact ⟨_, _, rfl, HN.out.1, fun g hg => hg, HN.out.2⟩
  case' w3_1 =>
    -- 1:  dst := some 18, op := Op.call  callee := Callee.value (Operand.func 26), args := #[Operand.tmp 17], argTypes := #[33] , type :
    go_simp
    go_at_call 26
    have hbb : Below w1.heap.size w1 (w1.drew) := (Below.refl w1.heap.size w1).drew
    refine (HP.out _ _ ⟨_, _, rfl, HX.out.1.below (H1.out.2.trans (hbb.mono H1.out.2.size)), HX.out.2.below (H1.out.2.trans (hbb.mono H1.out.2.size))⟩).mono ?_
    rintro e w2 ⟨v2, rfl, ⟨lv, wv, rfl, h2, h3⟩, h4⟩
    obtain ⟨A2, n2, rfl⟩ := h2.1.form
    obtain ⟨A3, n3, rfl⟩ := h3.rws.form
    have hb2 : Below w1.heap.size w1 w2 := hbb.trans (h4.mono hbb.size)
    have k0 := H1.out.1.below hb2
    have e0 := k0.cell 0 _ rfl
    have e1 := k0.cell 1 _ rfl
    have e2 := k0.cell 2 _ rfl
    have hbw2 : w.heap.size < w2.heap.size := k0.lt
    have hgz : (w1.drew).heap.size ≤ w2.heap.size := h4.size
    have H2 := Lib.hid (And.intro (show BysF (fun g => w1.heap.size ≤ g ∧ g < w2.heap.size) w2 _ p.log from h2) (And.intro (show RwsF (fun g => w1.heap.size ≤ g ∧ g < w2.heap.size) w2 _ p.wits from h3) (And.intro hb2 k0)))
    clear h2 h3 h4 hb2 k0 hbb
    go_wp2_with fail
    refine hK.out _ _ ⟨e0, e1, e2⟩ (fun hHeld1 => ?_)
    clear hK K
    try simp only [Act.put, List.setIfInBounds_toArray, List.set_cons_zero, List.set_cons_succ]
    refine wpAnyH_ready (rs := [3, 7]) (by kernel_rfl) (by simp) ?_
    refine AllReadyH.cons rfl (fun K hK => ?w3_1_3) (AllReadyH.cons rfl (fun K hK => ?w3_1_7) AllReadyH.nil)
    case' w3_1_7 =>
      -- 7:  dst := some 24, op := Op.makeSlice 74 (Operand.tmp 23) (Operand.tmp 23), type := 74
      go_simp
      have hbl := ((Below.refl w2.heap.size w2).alloc (Nat.le_refl _) (.cells (cellsW (List.replicate p.wits.length ⟨0, 0, false⟩)).toArray 87))
      have hkl := Blk.new w2 87 (cellsW (List.replicate p.wits.length ⟨0, 0, false⟩))
      have HBL := Lib.hid (And.intro hbl hkl)
      clear hbl hkl
      refine hK.out _ _ ⟨by go_keep, by go_keep, by go_keep⟩ (fun hHeld7 => ?_)
      clear hK K
      try simp only [Act.put, List.setIfInBounds_toArray, List.set_cons_zero, List.set_cons_succ]
      refine wpAnyH_ready (rs := [3]) (by kernel_rfl) (by simp) ?_
      refine AllReadyH.cons rfl (fun K hK => ?_) AllReadyH.nil
      -- 3:  dst := some 20, op := Op.call  callee := Callee.value (Operand.func 27), args := #[], argTypes := #[] , type := 72
      go_simp
      go_at_call 27
      refine (new_any _).mono ?_
      rintro e w3 ⟨rfl, h5, h6⟩
      have k0 := (H2.out.2.2.2.below HBL.out.1).below h6
      have i0 := k0.cell 0 _ rfl
      have i1 := k0.cell 1 _ rfl
      have i2 := k0.cell 2 _ rfl
      have hl3 : (w2.alloc (.cells (cellsW (List.replicate p.wits.length ⟨0, 0, false⟩)).toArray 87)).heap.size = w2.heap.size + 1 := by simp
      rw [hl3] at h5
      have H3 := Lib.hid (And.intro h5 (And.intro (HBL.out.1.trans (h6.mono HBL.out.1.size)) (HBL.out.2.below h6)))
      clear h5 h6 k0 hl3
      go_wp2_with fail
      refine hK.out _ _ ⟨i0, i1, i2⟩ (fun hHeld3 => ?_)
      clear hK K
      try simp only [Act.put, List.setIfInBounds_toArray, List.set_cons_zero, List.set_cons_succ]
      refine take_yes 8 25 rfl rfl (by kernel_rfl) (by kernel_rfl) (by kernel_rfl) (fun _ _ _ h => h) (by assumption) (by rfl) (v := ?_) ?_ ?_
      rotate_left 1
      · (intro w hSw; (try dsimp only at hSw); go_simp; try with_reducible rfl)
      simp only [List.setIfInBounds_toArray, List.set_cons_zero, List.set_cons_succ]
      refine wpAnyH_ready (rs := [9]) (by kernel_rfl) (by simp) ?_
      refine AllReadyH.cons rfl (fun K hK => ?_) AllReadyH.nil
      -- 9:  dst := some 26, op := Op.box 76 (Operand.tmp 25), type := 26
      go_simp
      have hz := H2.out.2.2.1.size
      have hz3 := H3.out.2.1.size
      have hA3 := H3.out.1.blk.lt
      have HS : Hid (NewSt w w3 w2.heap.size (w2.heap.size + 1) (.slice A2 p.log.length n2) (.slice A3 p.wits.length n3) p) := Lib.hid ⟨(H1.out.2.trans (H2.out.2.2.1.mono H1.out.2.size)).trans (H3.out.2.1.mono (by omega)), (H2.out.1.below H3.out.2.1).mono (fun g hg => ⟨by have := hg.1; omega, by have := hg.2; omega, by have := hg.1; have := hg.2; omega, by have := hg.1; have := hg.2; omega⟩), (H2.out.2.1.below H3.out.2.1).mono (fun g hg => ⟨by have := hg.1; omega, by have := hg.2; omega, by have := hg.1; have := hg.2; omega, by have := hg.1; have := hg.2; omega⟩), H3.out.1, H3.out.2.2, by omega, by omega, by omega⟩
      refine hK.out _ _ ⟨by go_keep, by go_keep, by go_keep⟩ (fun hHeld9 => ?_)
      clear hK K
      try simp only [Act.put, List.setIfInBounds_toArray, List.set_cons_zero, List.set_cons_succ]
      refine take_yes 10 4 rfl rfl (by kernel_rfl) (by kernel_rfl) (by kernel_rfl) (fun _ _ _ h => h) (by assumption) (by rfl) (v := ?_) ?_ ?_
      rotate_left 1
      · (intro w hSw; (try dsimp only at hSw); go_simp; try with_reducible rfl)
      simp only [List.setIfInBounds_toArray, List.set_cons_zero, List.set_cons_succ]
      refine take_yes 11 5 rfl rfl (by kernel_rfl) (by kernel_rfl) (by kernel_rfl) (fun _ _ _ h => h) (by assumption) (by rfl) (v := ?_) ?_ ?_
      rotate_left 1
      · (intro w hSw; (try dsimp only at hSw); go_simp; try with_reducible rfl)
      simp only [List.setIfInBounds_toArray, List.set_cons_zero, List.set_cons_succ]
      refine wpAnyH_done (by kernel_rfl) ?_ _
      have HN := Lib.hid (new_ok (retry := retry) HS.out ((w3).alloc (.cells #[.slice A2 p.log.length n2, .slice A3 p.wits.length n3, .int .i64 p.quorum, .int .i64 retry, .pointer (some ⟨w2.heap.size + 1, 0, none⟩), .slice (some ⟨w2.heap.size, 0, none⟩) p.wits.length p.wits.length, .int .i64 0, .slice none 0 0, .int .i64 0, .slice none 0 0, .slice none 0 0, .bool false, .slice none 0 0, .int .i64 0, .slice none 0 0, .int .i64 0, .slice none 0 0, .slice none 0 0, .slice none 0 0] 76)) (by simp [fdCells, fdNew, zeroR, zSg]))
      go_wp2
      go_ret2
      exact ⟨_, _, rfl, HN.out.1, fun g hg => hg, HN.out.2⟩
    case' w3_1_3 =>
      -- 3:  dst := some 20, op := Op.call  callee := Callee.value (Operand.func 27), args := #[], argTypes := #[] , type := 72
      go_simp
      go_at_call 27
      refine (new_any w2).mono ?_
      rintro e w3 ⟨rfl, h5, h6⟩
      have k0 := H2.out.2.2.2.below h6
      have i0 := k0.cell 0 _ rfl
      have i1 := k0.cell 1 _ rfl
      have i2 := k0.cell 2 _ rfl
      have H3 := Lib.hid (And.intro h5 h6)
      have hbw3 : w.heap.size < w3.heap.size := k0.lt
      clear h5 h6 k0
      go_wp2_with fail
      refine hK.out _ _ ⟨i0, i1, i2⟩ (fun hHeld3 => ?_)
      clear hK K
      try simp only [Act.put, List.setIfInBounds_toArray, List.set_cons_zero, List.set_cons_succ]
      refine wpAnyH_ready (rs := [7]) (by kernel_rfl) (by simp) ?_
      refine AllReadyH.cons rfl (fun K hK => ?_) AllReadyH.nil
      -- 7:  dst := some 24, op := Op.makeSlice 74 (Operand.tmp 23) (Operand.tmp 23), type := 74
      go_simp
      refine hK.out _ _ ⟨by go_keep, by go_keep, by go_keep⟩ (fun hHeld7 => ?_)
      clear hK K
      try simp only [Act.put, List.setIfInBounds_toArray, List.set_cons_zero, List.set_cons_succ]
      refine take_yes 8 25 rfl rfl (by kernel_rfl) (by kernel_rfl) (by kernel_rfl) (fun _ _ _ h => h) (by assumption) (by rfl) (v := ?_) ?_ ?_
      rotate_left 1
      · (intro w hSw; (try dsimp only at hSw); go_simp; try with_reducible rfl)
      simp only [List.setIfInBounds_toArray, List.set_cons_zero, List.set_cons_succ]
      refine wpAnyH_ready (rs := [9]) (by kernel_rfl) (by simp) ?_
      refine AllReadyH.cons rfl (fun K hK => ?_) AllReadyH.nil
      -- 9:  dst := some 26, op := Op.box 76 (Operand.tmp 25), type := 26
      go_simp
      have hz := H2.out.2.2.1.size
      have hz3 := H3.out.2.size
      have hA3 := H3.out.1.blk.lt
      have ha := (Below.refl w3.heap.size w3).alloc (Nat.le_refl _) (.cells (cellsW (List.replicate p.wits.length ⟨0, 0, false⟩)).toArray 87)
      have haz := ha.size
      have HS : Hid (NewSt w (w3.alloc (.cells (cellsW (List.replicate p.wits.length ⟨0, 0, false⟩)).toArray 87)) w3.heap.size w2.heap.size (.slice A2 p.log.length n2) (.slice A3 p.wits.length n3) p) := Lib.hid ⟨((H1.out.2.trans (H2.out.2.2.1.mono H1.out.2.size)).trans (H3.out.2.mono (by omega))).trans (ha.mono (by omega)), ((H2.out.1.below H3.out.2).below ha).mono (fun g hg => ⟨by have := hg.1; omega, by have := hg.2; omega, by have := hg.1; have := hg.2; omega, by have := hg.1; have := hg.2; omega⟩), ((H2.out.2.1.below H3.out.2).below ha).mono (fun g hg => ⟨by have := hg.1; omega, by have := hg.2; omega, by have := hg.1; have := hg.2; omega, by have := hg.1; have := hg.2; omega⟩), H3.out.1.below ha, Blk.new w3 87 (cellsW (List.replicate p.wits.length ⟨0, 0, false⟩)), by omega, by omega, by omega⟩
      refine hK.out _ _ ⟨by go_keep, by go_keep, by go_keep⟩ (fun hHeld9 => ?_)
      clear hK K
      try simp only [Act.put, List.setIfInBounds_toArray, List.set_cons_zero, List.set_cons_succ]
      refine take_yes 10 4 rfl rfl (by kernel_rfl) (by kernel_rfl) (by kernel_rfl) (fun _ _ _ h => h) (by assumption) (by rfl) (v := ?_) ?_ ?_
      rotate_left 1
      · (intro w hSw; (try dsimp only at hSw); go_simp; try with_reducible rfl)
      simp only [List.setIfInBounds_toArray, List.set_cons_zero, List.set_cons_succ]
      refine take_yes 11 5 rfl rfl (by kernel_rfl) (by kernel_rfl) (by kernel_rfl) (fun _ _ _ h => h) (by assumption) (by rfl) (v := ?_) ?_ ?_
      rotate_left 1
      · (intro w hSw; (try dsimp only at hSw); go_simp; try with_reducible rfl)
      simp only [List.setIfInBounds_toArray, List.set_cons_zero, List.set_cons_succ]
      refine wpAnyH_done (by kernel_rfl) ?_ _
      have hn := new_ok (retry := retry) HS.out ((w3.alloc (.cells (cellsW (List.replicate p.wits.length ⟨0, 0, false⟩)).toArray 87)).alloc (.cells #[.slice A2 p.log.length n2, .slice A3 p.wits.length n3, .int .i64 p.quorum, .int .i64 retry, .pointer (some ⟨w2.heap.size, 0, none⟩), .slice (some ⟨w3.heap.size, 0, none⟩) p.wits.length p.wits.length, .int .i64 0, .slice none 0 0, .int .i64 0, .slice none 0 0, .slice none 0 0, .bool false, .slice none 0 0, .int .i64 0, .slice none 0 0, .int .i64 0, .slice none 0 0, .slice none 0 0, .slice none 0 0] 76)) (by simp [fdCells, fdNew, zeroR, zSg])
      have hsz : (w3.alloc (.cells (cellsW (List.replicate p.wits.length ⟨0, 0, false⟩)).toArray 87)).heap.size = w3.heap.size + 1 := by simp
      rw [hsz] at hn
      have HN := Lib.hid hn
      clear hn hsz
      go_wp2
      go_ret2
      exact ⟨_, _, rfl, HN.out.1, fun g hg => hg, HN.out.2⟩
end Go.Proofs.Ytlkgeifmppadmaa
