/- The feeder's keep. Slices of ints; broadsheetbook's Within. The reference's new owner, and which blocks are its own. Conditions: as each theorem states them. -/
import Derived.Test.YtlkgeifmppadmaaGreatKl
import Derived.Test.YtlkgeifmppadmaaGreatKi
import Derived.Test.YtlkgeifmppadmaaGreatKd
namespace Go.Proofs.YtlkgeifmppadmaaGreat
open Go.RowKit
set_option linter.unusedVariables false
set_option linter.unusedSimpArgs false

/-- A cosignature is kept. -/
def keep0 (d : FdD) (k : Nat) (g : CgD) : FdD := { d with kept := d.kept ++ [g], l := d.l.set k ⟨d.cur.ck.num, (wAt d.l k).tries, true⟩, m := keepW (k : Int) d.m }
/-- .. and at the quorum the checkpoint is done. -/
def keepD (d : FdD) (k : Nat) (g : CgD) : FdD := if d.p.quorum ≤ ((d.kept.length + 1 : Nat) : Int) then { keep0 d k g with done := d.cur, enough := d.kept ++ [g] } else keep0 d k g
theorem cellsW_kept (L : List WtD) (k : Nat) (z : Int) (h : k < L.length) : cellsW (L.set k ⟨z, (wAt L k).tries, true⟩) = ((cellsW L).set (k * 3 + 2) (.bool true)).set (k * 3) (.int .i64 z) := by
  rw [cellsW_set L k _ h, wAt_eq L k h]
  obtain ⟨h0, h1, h2⟩ := cellsW_at L k h
  obtain ⟨hl1, e1⟩ := List.getElem?_eq_some_iff.1 h1
  apply List.ext_getElem?
  intro j
  simp only [List.getElem?_set, List.length_set]
  by_cases j2 : k * 3 + 2 = j
  · subst j2; simp
  · by_cases j1 : k * 3 + 1 = j
    · subst j1; simp [hl1, e1]
    · simp [j1, j2]
set_option maxRecDepth 100000 in
set_option maxHeartbeats 8000000 in
theorem keep_any (Z : Nat → Prop) (f : Nat) (d : FdD) (r : FdR) (us es : List Value) (v : Value) (g : CgD) (k : Nat) (hs : SmallSig g.sig) (hk : k < d.l.length) (hkl : d.kept.length ≤ 1000) (hm : d.m.length ≤ 1000000) (w : World) (hok : FdOk Z w f d r us es) (hv : CgV w v g) (hZ : ∀ g, Z g → g < w.heap.size) :
    Calls Tryz.prog 31 #[.pointer (some ⟨f, 0, none⟩), .int .i64 k, v] w fun e w' => e = .returned (.tuple #[]) ∧ FdAt (Wide Z w w') w' f (keepD d k g) ∧ Chg w w' Z := by
  obtain ⟨i0, hi0, hz0, hz1, hz2⟩ := info_parts info_cosig
  have HZ := Lib.hid hZ
  have HCP := Lib.hid (fun (wz : World) (v : Value) (hz : CgV wz v g) => cgcopy_any v g hs wz hz)
  obtain ⟨p1, q1, rfl, h1, h2⟩ := hv
  obtain ⟨P, cp, rfl⟩ := h1.form
  obtain ⟨Q, cq, rfl⟩ := h2.form
  obtain ⟨KA, kc, hkv⟩ := (Sho.own hok.kp).form
  have HKV := Lib.hid hkv
  have HX := Lib.hid (And.intro h1 h2)
  have hb0 := (Below.refl w.heap.size w).alloc (Nat.le_refl _) (.cells #[.int .i64 g.wit, .int .i64 g.sig.index, .slice P g.sig.parts.length cp, .slice Q g.sig.path.length cq] 47)
  have hk0 := Blk.new w 47 [.int .i64 g.wit, .int .i64 g.sig.index, .slice P g.sig.parts.length cp, .slice Q g.sig.path.length cq]
  have hok1 := hok.below hb0
  have H0 := Lib.hid (And.intro hk0 (And.intro hb0 hok1))
  have f5 := cell5 hok1.blk
  have hfl := hok1.blk.lt
  have hfw := hok.blk.lt
  have hkI : (k : Int) < (d.l.length : Int) := by omega
  have HOK := Lib.hid hok
  clear h1 h2 hs hZ hkv hok hok1 hb0 hk0
  go_enter Tryz.func31, Tryz.ntmps31
  go_wp2
  refine code_at (fun w1 => Blk w1 w.heap.size 47 [.int .i64 g.wit, .int .i64 g.sig.index, .slice P g.sig.parts.length cp, .slice Q g.sig.path.length cq] ∧ Below w.heap.size w w1 ∧ FdOk Z w1 f d r us es) H0.out ?_
  rintro w1 ⟨k0, kb, kd⟩
  refine wp_region_any (by kernel_rfl) ?_
  change wpAny _ _ _ _ _ _ _ w1.drew
  have hd := (Below.refl w1.heap.size w1).drew
  replace k0 := k0.below hd
  replace kd := kd.below hd
  replace kb := kb.trans (hd.mono kb.size)
  clear hd
  generalize w1.drew = w1 at *
  have c0 := k0.cell 0 _ rfl
  have c1 := k0.cell 1 _ rfl
  have c2 := k0.cell 2 _ rfl
  have c3 := k0.cell 3 _ rfl
  have cf : w1.cell? ⟨f, 12, none⟩ = some (.slice KA d.kept.length kc) := by rw [← HKV.out]; exact kd.blk.cell 12 _ rfl
  have hfl1 := kd.blk.lt
  have hkl1 := k0.lt
  have H1 := Lib.hid (And.intro k0 (And.intro kb kd))
  clear k0 kb kd f5 hfl
  refine any_yes 0 13 rfl rfl (by kernel_rfl) (by kernel_rfl) (by kernel_rfl) (fun _ _ _ h => h) (by rfl) (v := ?_) ?_ ?_
  rotate_left 1
  · (intro w; go_simp; try with_reducible rfl)
  simp only [List.setIfInBounds_toArray, List.set_cons_zero, List.set_cons_succ]
  refine any_yes 1 14 rfl rfl (by kernel_rfl) (by kernel_rfl) (by kernel_rfl) (fun _ _ _ h => h) (by rfl) (v := ?_) ?_ ?_
  rotate_left 1
  · (intro w; go_simp; try with_reducible rfl)
  simp only [List.setIfInBounds_toArray, List.set_cons_zero, List.set_cons_succ]
  refine any_yes 2 15 rfl rfl (by kernel_rfl) (by kernel_rfl) (by kernel_rfl) (fun _ _ _ h => h) (by rfl) (v := ?_) ?_ ?_
  rotate_left 1
  · (intro w; go_simp; try with_reducible rfl)
  simp only [List.setIfInBounds_toArray, List.set_cons_zero, List.set_cons_succ]
  refine any_yes 3 16 rfl rfl (by kernel_rfl) (by kernel_rfl) (by kernel_rfl) (fun _ _ _ h => h) (by rfl) (v := ?_) ?_ ?_
  rotate_left 1
  · (intro w; go_simp; try with_reducible rfl)
  simp only [List.setIfInBounds_toArray, List.set_cons_zero, List.set_cons_succ]
  refine wpAny_ready (rs := [4, 5]) (by kernel_rfl) (by simp) ?_
  refine AllReady.cons rfl (fun K hK => ?w2_4) (AllReady.cons rfl (fun K hK => ?w2_5) AllReady.nil)
  case' w2_5 =>
    -- 5:  dst := some 18, op := Op.load 58 (Operand.tmp 5), type := 58
    go_simp
    refine hK _ _ ?_
    clear hK K
    try simp only [Act.put, List.setIfInBounds_toArray, List.set_cons_zero, List.set_cons_succ]
    refine wpAny_ready (rs := [4, 6]) (by kernel_rfl) (by simp) ?_
    refine AllReady.cons rfl (fun K hK => ?w2_5_4) (AllReady.cons rfl (fun K hK => ?w2_5_6) AllReady.nil)
    case' w2_5_6 =>
      -- 6:  dst := some 19, op := Op.call  callee := Callee.value (Operand.func 40), args := #[Operand.tmp 18], argTypes := #[58] , type :
      go_simp
      go_at_call 33
      refine (HCP.out w1 _ ⟨_, _, rfl, HX.out.1.below H1.out.2.1, HX.out.2.below H1.out.2.1⟩).mono ?_
      rintro e w2 ⟨v2, rfl, ⟨p2, q2, rfl, h2, h3⟩, h4⟩
      obtain ⟨A5, c5, rfl⟩ := h2.rws.form
      obtain ⟨A6, c6, rfl⟩ := h3.rws.form
      have kA := H1.out.1.below h4
      have kF := H1.out.2.2.below h4
      have j0 := kA.cell 0 _ rfl
      have j1 := kA.cell 1 _ rfl
      have j2 := kA.cell 2 _ rfl
      have j3 := kA.cell 3 _ rfl
      have jf : w2.cell? ⟨f, 12, none⟩ = some (.slice KA d.kept.length kc) := by rw [← HKV.out]; exact kF.blk.cell 12 _ rfl
      have hfl2 := kF.blk.lt
      have hbl2 := kA.lt
      have H2 := Lib.hid (And.intro (show RwsF (fun x => w1.heap.size ≤ x ∧ x < w2.heap.size) w2 (.slice A5 g.sig.parts.length c5) g.sig.parts from h2) (And.intro (show RwsF (fun x => w1.heap.size ≤ x ∧ x < w2.heap.size) w2 (.slice A6 g.sig.path.length c6) g.sig.path from h3) (And.intro h4 (And.intro kA kF))))
      clear h2 h3 h4 kA kF
      try dsimp only
      refine hK _ _ ?_
      clear hK K
      try simp only [Act.put, List.setIfInBounds_toArray, List.set_cons_zero, List.set_cons_succ]
      refine wpAny_ready (rs := [4, 7]) (by kernel_rfl) (by simp) ?_
      refine AllReady.cons rfl (fun K hK => ?w2_5_6_4) (AllReady.cons rfl (fun K hK => ?w2_5_6_7) AllReady.nil)
      case' w2_5_6_7 =>
        -- 7:  dst := some 20, op := Op.buildSlice 64 1 #[(0, Operand.tmp 19)], type := 64
        go_simp
        have hal := (Below.refl w2.heap.size w2).alloc (Nat.le_refl _) (.cells #[.int .i64 g.wit, .int .i64 g.sig.index, .slice A5 g.sig.parts.length c5, .slice A6 g.sig.path.length c6] 47)
        have i0' := (hal.cell (p := ⟨w.heap.size, 0, none⟩) hbl2).trans j0
        have i1' := (hal.cell (p := ⟨w.heap.size, 1, none⟩) hbl2).trans j1
        have i2' := (hal.cell (p := ⟨w.heap.size, 2, none⟩) hbl2).trans j2
        have i3' := (hal.cell (p := ⟨w.heap.size, 3, none⟩) hbl2).trans j3
        have if' := (hal.cell (p := ⟨f, 12, none⟩) hfl2).trans jf
        refine hK _ _ ?_
        clear hK K
        try simp only [Act.put, List.setIfInBounds_toArray, List.set_cons_zero, List.set_cons_succ]
        refine wpAny_ready (rs := [4]) (by kernel_rfl) (by simp) ?_
        refine AllReady.cons rfl (fun K hK => ?_) AllReady.nil
        -- 4:  dst := some 17, op := Op.load 64 (Operand.tmp 16), type := 64
        go_simp
        refine hK _ _ ?_
        clear hK K
        try simp only [Act.put, List.setIfInBounds_toArray, List.set_cons_zero, List.set_cons_succ]
        refine wpAny_ready (rs := [8]) (by kernel_rfl) (by simp) ?_
        refine AllReady.cons rfl (fun K hK => ?_) AllReady.nil
        -- 8:  dst := some 21, op := Op.call  callee := Callee.builtin Builtin.append, args := #[Operand.tmp 17, Operand.tmp 20], argTypes := 
        skip
        refine step_append_lie rfl (.tmp 17) (.tmp 20) 49 rfl r.kb 47 i0 (.agg #[.int .i64 0, .int .i64 0, .slice none 0 0, .slice none 0 0]) 4 64 Tryz.underlying49 hi0 hz0 hz1 hz2 rfl (by decide) _ d.kept.length us rfl (by rw [← HKV.out]; exact World.ownsRow.alloc H2.out.2.2.2.2.kp _) _ 1 [.int .i64 g.wit, .int .i64 g.sig.index, .slice A5 g.sig.parts.length c5, .slice A6 g.sig.path.length c6] rfl ((Sho.new w2 47 [.int .i64 g.wit, .int .i64 g.sig.index, .slice A5 g.sig.parts.length c5, .slice A6 g.sig.path.length c6] 1 4 1 rfl (Nat.le_refl _) (by decide)).news (fun u hu => by simp at hu; rcases hu with rfl | rfl | rfl | rfl <;> rfl)) (by unfold maxLen; omega) (by omega) (by have := H2.out.2.2.2.2.kbl; simp; omega) ?_
        intro v3 W3 hown3 hgrow3 hlie3
        obtain ⟨A7, c7, rfl⟩ := (Sho.own hown3).form
        have hcA : Chg w2 W3 (fun x => r.kv.ownBlock = some x) := by rw [HKV.out]; exact ((Chg.refl w2 _).alloc _).trans (Chg.of_grown hgrow3) (fun i _ h => h.symm)
        have hc1 : Chg w1 W3 (fun x => r.kv.ownBlock = some x) := ((Chg.refl w1 _).trans (Chg.of_below (S := fun _ => False) H2.out.2.2.1) (fun _ _ h => h.elim)).trans hcA (fun _ _ h => h)
        have b3 := H2.out.2.2.2.2.blk.chg hcA HOK.out.n2
        have hz1 := H2.out.2.2.1.size
        have hzA := hcA.size
        have hkw : ∀ x, r.kv.ownBlock = some x → x < w1.heap.size := fun x hx => (World.ownsRow.lt H1.out.2.2.kp x hx).2
        have hkn : ∀ x, w1.heap.size ≤ x → r.kv.ownBlock ≠ some x := fun x hx e => by have := hkw x e; omega
        have hvn : ∀ x, w1.heap.size ≤ x → x < w2.heap.size → (Value.slice A7 (d.kept.length + 1) c7).ownBlock ≠ some x := fun x hx hx2 => LieOf.ne hlie3 (by rw [← HKV.out]; exact hkn x hx) (by simp; omega)
        have hro : W3.ownsRow r.kb 47 4 (.slice A7 (d.kept.length + 1) c7) (d.kept.length + 1) (us ++ [.int .i64 g.wit, .int .i64 g.sig.index, .slice A5 g.sig.parts.length c5, .slice A6 g.sig.path.length c6]) := hown3
        have hli : (Value.slice A7 (d.kept.length + 1) c7).ownBlock = r.kv.ownBlock ∨ ∃ q, (Value.slice A7 (d.kept.length + 1) c7).ownBlock = some q ∧ w1.heap.size ≤ q := by
          rcases hlie3 with e | ⟨q, e, hq⟩
          · exact .inl (by rw [HKV.out]; exact e)
          · exact .inr ⟨q, e, by simp at hq; omega⟩
        have hcg : CgRow (fun x => Fresh w1 W3 x ∧ (Value.slice A7 (d.kept.length + 1) c7).ownBlock ≠ some x) W3 [.int .i64 g.wit, .int .i64 g.sig.index, .slice A5 g.sig.parts.length c5, .slice A6 g.sig.path.length c6] [g] := by
          have hm : ∀ x, (w1.heap.size ≤ x ∧ x < w2.heap.size) → (Fresh w1 W3 x ∧ (Value.slice A7 (d.kept.length + 1) c7).ownBlock ≠ some x) := fun x hx => ⟨⟨hx.1, by omega⟩, hvn x hx.1 hx.2⟩
          refine ⟨rfl, fun i hi => ?_⟩
          obtain rfl : i = 0 := by simpa using hi
          exact ⟨_, _, rfl, rfl, rfl, rfl, (H2.out.1.chg hcA (fun x hx e => hkn x hx.1 e)).mono hm, (H2.out.2.1.chg hcA (fun x hx e => hkn x hx.1 e)).mono hm⟩
        have x12 := b3.cell 12 _ rfl
        have y12 := b3.free 12
        have hfl3 := b3.lt
        have H3 := Lib.hid (And.intro hro (And.intro hli (And.intro hc1 (And.intro hcg b3))))
        clear hown3 hgrow3 hlie3 hcA hc1 b3 hkw hkn hvn hro hli hcg
        simp only [Act.put, List.getElem_toArray, List.getElem_cons_succ, List.getElem_cons_zero, List.setIfInBounds_toArray, List.set_cons_zero, List.set_cons_succ]
        refine hK _ _ ?_
        clear hK K
        try simp only [Act.put, List.setIfInBounds_toArray, List.set_cons_zero, List.set_cons_succ]
        refine any_yes 9 22 rfl rfl (by kernel_rfl) (by kernel_rfl) (by kernel_rfl) (fun _ _ _ h => h) (by rfl) (v := ?_) ?_ ?_
        rotate_left 1
        · (intro w; go_simp; try with_reducible rfl)
        simp only [List.setIfInBounds_toArray, List.set_cons_zero, List.set_cons_succ]
        refine any_yes 10 23 rfl rfl (by kernel_rfl) (by kernel_rfl) (by kernel_rfl) (fun _ _ _ h => h) (by rfl) (v := ?_) ?_ ?_
        rotate_left 1
        · (intro w; go_simp; try with_reducible rfl)
        simp only [List.setIfInBounds_toArray, List.set_cons_zero, List.set_cons_succ]
        refine wpAny_ready (rs := [11]) (by kernel_rfl) (by simp) ?_
        refine AllReady.cons rfl (fun K hK => ?_) AllReady.nil
        -- 11:  dst := none, op := Op.store 64 (Operand.tmp 23) (Operand.tmp 21), type := 0
        go_simp
        refine hK _ _ ?_
        clear hK K
        try simp only [Act.put, List.setIfInBounds_toArray, List.set_cons_zero, List.set_cons_succ]
        refine wpAny_done (by kernel_rfl) ?_ _
      case' w2_5_6_4 =>
        -- 4:  dst := some 17, op := Op.load 64 (Operand.tmp 16), type := 64
        go_simp
        refine hK _ _ ?_
        clear hK K
        try simp only [Act.put, List.setIfInBounds_toArray, List.set_cons_zero, List.set_cons_succ]
        refine wpAny_ready (rs := [7]) (by kernel_rfl) (by simp) ?_
        refine AllReady.cons rfl (fun K hK => ?_) AllReady.nil
        -- 7:  dst := some 20, op := Op.buildSlice 64 1 #[(0, Operand.tmp 19)], type := 64
        go_simp
        have hal := (Below.refl w2.heap.size w2).alloc (Nat.le_refl _) (.cells #[.int .i64 g.wit, .int .i64 g.sig.index, .slice A5 g.sig.parts.length c5, .slice A6 g.sig.path.length c6] 47)
        have i0' := (hal.cell (p := ⟨w.heap.size, 0, none⟩) hbl2).trans j0
        have i1' := (hal.cell (p := ⟨w.heap.size, 1, none⟩) hbl2).trans j1
        have i2' := (hal.cell (p := ⟨w.heap.size, 2, none⟩) hbl2).trans j2
        have i3' := (hal.cell (p := ⟨w.heap.size, 3, none⟩) hbl2).trans j3
        have if' := (hal.cell (p := ⟨f, 12, none⟩) hfl2).trans jf
        refine hK _ _ ?_
        clear hK K
        try simp only [Act.put, List.setIfInBounds_toArray, List.set_cons_zero, List.set_cons_succ]
        refine wpAny_ready (rs := [8]) (by kernel_rfl) (by simp) ?_
        refine AllReady.cons rfl (fun K hK => ?_) AllReady.nil
        -- 8:  dst := some 21, op := Op.call  callee := Callee.builtin Builtin.append, args := #[Operand.tmp 17, Operand.tmp 20], argTypes := 
        skip
        refine step_append_lie rfl (.tmp 17) (.tmp 20) 49 rfl r.kb 47 i0 (.agg #[.int .i64 0, .int .i64 0, .slice none 0 0, .slice none 0 0]) 4 64 Tryz.underlying49 hi0 hz0 hz1 hz2 rfl (by decide) _ d.kept.length us rfl (by rw [← HKV.out]; exact World.ownsRow.alloc H2.out.2.2.2.2.kp _) _ 1 [.int .i64 g.wit, .int .i64 g.sig.index, .slice A5 g.sig.parts.length c5, .slice A6 g.sig.path.length c6] rfl ((Sho.new w2 47 [.int .i64 g.wit, .int .i64 g.sig.index, .slice A5 g.sig.parts.length c5, .slice A6 g.sig.path.length c6] 1 4 1 rfl (Nat.le_refl _) (by decide)).news (fun u hu => by simp at hu; rcases hu with rfl | rfl | rfl | rfl <;> rfl)) (by unfold maxLen; omega) (by omega) (by have := H2.out.2.2.2.2.kbl; simp; omega) ?_
        intro v3 W3 hown3 hgrow3 hlie3
        obtain ⟨A7, c7, rfl⟩ := (Sho.own hown3).form
        have hcA : Chg w2 W3 (fun x => r.kv.ownBlock = some x) := by rw [HKV.out]; exact ((Chg.refl w2 _).alloc _).trans (Chg.of_grown hgrow3) (fun i _ h => h.symm)
        have hc1 : Chg w1 W3 (fun x => r.kv.ownBlock = some x) := ((Chg.refl w1 _).trans (Chg.of_below (S := fun _ => False) H2.out.2.2.1) (fun _ _ h => h.elim)).trans hcA (fun _ _ h => h)
        have b3 := H2.out.2.2.2.2.blk.chg hcA HOK.out.n2
        have hz1 := H2.out.2.2.1.size
        have hzA := hcA.size
        have hkw : ∀ x, r.kv.ownBlock = some x → x < w1.heap.size := fun x hx => (World.ownsRow.lt H1.out.2.2.kp x hx).2
        have hkn : ∀ x, w1.heap.size ≤ x → r.kv.ownBlock ≠ some x := fun x hx e => by have := hkw x e; omega
        have hvn : ∀ x, w1.heap.size ≤ x → x < w2.heap.size → (Value.slice A7 (d.kept.length + 1) c7).ownBlock ≠ some x := fun x hx hx2 => LieOf.ne hlie3 (by rw [← HKV.out]; exact hkn x hx) (by simp; omega)
        have hro : W3.ownsRow r.kb 47 4 (.slice A7 (d.kept.length + 1) c7) (d.kept.length + 1) (us ++ [.int .i64 g.wit, .int .i64 g.sig.index, .slice A5 g.sig.parts.length c5, .slice A6 g.sig.path.length c6]) := hown3
        have hli : (Value.slice A7 (d.kept.length + 1) c7).ownBlock = r.kv.ownBlock ∨ ∃ q, (Value.slice A7 (d.kept.length + 1) c7).ownBlock = some q ∧ w1.heap.size ≤ q := by
          rcases hlie3 with e | ⟨q, e, hq⟩
          · exact .inl (by rw [HKV.out]; exact e)
          · exact .inr ⟨q, e, by simp at hq; omega⟩
        have hcg : CgRow (fun x => Fresh w1 W3 x ∧ (Value.slice A7 (d.kept.length + 1) c7).ownBlock ≠ some x) W3 [.int .i64 g.wit, .int .i64 g.sig.index, .slice A5 g.sig.parts.length c5, .slice A6 g.sig.path.length c6] [g] := by
          have hm : ∀ x, (w1.heap.size ≤ x ∧ x < w2.heap.size) → (Fresh w1 W3 x ∧ (Value.slice A7 (d.kept.length + 1) c7).ownBlock ≠ some x) := fun x hx => ⟨⟨hx.1, by omega⟩, hvn x hx.1 hx.2⟩
          refine ⟨rfl, fun i hi => ?_⟩
          obtain rfl : i = 0 := by simpa using hi
          exact ⟨_, _, rfl, rfl, rfl, rfl, (H2.out.1.chg hcA (fun x hx e => hkn x hx.1 e)).mono hm, (H2.out.2.1.chg hcA (fun x hx e => hkn x hx.1 e)).mono hm⟩
        have x12 := b3.cell 12 _ rfl
        have y12 := b3.free 12
        have hfl3 := b3.lt
        have H3 := Lib.hid (And.intro hro (And.intro hli (And.intro hc1 (And.intro hcg b3))))
        clear hown3 hgrow3 hlie3 hcA hc1 b3 hkw hkn hvn hro hli hcg
        simp only [Act.put, List.getElem_toArray, List.getElem_cons_succ, List.getElem_cons_zero, List.setIfInBounds_toArray, List.set_cons_zero, List.set_cons_succ]
        refine hK _ _ ?_
        clear hK K
        try simp only [Act.put, List.setIfInBounds_toArray, List.set_cons_zero, List.set_cons_succ]
        refine any_yes 9 22 rfl rfl (by kernel_rfl) (by kernel_rfl) (by kernel_rfl) (fun _ _ _ h => h) (by rfl) (v := ?_) ?_ ?_
        rotate_left 1
        · (intro w; go_simp; try with_reducible rfl)
        simp only [List.setIfInBounds_toArray, List.set_cons_zero, List.set_cons_succ]
        refine any_yes 10 23 rfl rfl (by kernel_rfl) (by kernel_rfl) (by kernel_rfl) (fun _ _ _ h => h) (by rfl) (v := ?_) ?_ ?_
        rotate_left 1
        · (intro w; go_simp; try with_reducible rfl)
        simp only [List.setIfInBounds_toArray, List.set_cons_zero, List.set_cons_succ]
        refine wpAny_ready (rs := [11]) (by kernel_rfl) (by simp) ?_
        refine AllReady.cons rfl (fun K hK => ?_) AllReady.nil
        -- 11:  dst := none, op := Op.store 64 (Operand.tmp 23) (Operand.tmp 21), type := 0
        go_simp
        refine hK _ _ ?_
        clear hK K
        try simp only [Act.put, List.setIfInBounds_toArray, List.set_cons_zero, List.set_cons_succ]
        refine wpAny_done (by kernel_rfl) ?_ _
    case' w2_5_4 =>
      -- 4:  dst := some 17, op := Op.load 64 (Operand.tmp 16), type := 64
      go_simp
      refine hK _ _ ?_
      clear hK K
      try simp only [Act.put, List.setIfInBounds_toArray, List.set_cons_zero, List.set_cons_succ]
      refine wpAny_ready (rs := [6]) (by kernel_rfl) (by simp) ?_
      refine AllReady.cons rfl (fun K hK => ?_) AllReady.nil
      -- 6:  dst := some 19, op := Op.call  callee := Callee.value (Operand.func 40), args := #[Operand.tmp 18], argTypes := #[58] , type :
      go_simp
      go_at_call 33
      refine (HCP.out w1 _ ⟨_, _, rfl, HX.out.1.below H1.out.2.1, HX.out.2.below H1.out.2.1⟩).mono ?_
      rintro e w2 ⟨v2, rfl, ⟨p2, q2, rfl, h2, h3⟩, h4⟩
      obtain ⟨A5, c5, rfl⟩ := h2.rws.form
      obtain ⟨A6, c6, rfl⟩ := h3.rws.form
      have kA := H1.out.1.below h4
      have kF := H1.out.2.2.below h4
      have j0 := kA.cell 0 _ rfl
      have j1 := kA.cell 1 _ rfl
      have j2 := kA.cell 2 _ rfl
      have j3 := kA.cell 3 _ rfl
      have jf : w2.cell? ⟨f, 12, none⟩ = some (.slice KA d.kept.length kc) := by rw [← HKV.out]; exact kF.blk.cell 12 _ rfl
      have hfl2 := kF.blk.lt
      have hbl2 := kA.lt
      have H2 := Lib.hid (And.intro (show RwsF (fun x => w1.heap.size ≤ x ∧ x < w2.heap.size) w2 (.slice A5 g.sig.parts.length c5) g.sig.parts from h2) (And.intro (show RwsF (fun x => w1.heap.size ≤ x ∧ x < w2.heap.size) w2 (.slice A6 g.sig.path.length c6) g.sig.path from h3) (And.intro h4 (And.intro kA kF))))
      clear h2 h3 h4 kA kF
      try dsimp only
      refine hK _ _ ?_
      clear hK K
      try simp only [Act.put, List.setIfInBounds_toArray, List.set_cons_zero, List.set_cons_succ]
      refine wpAny_ready (rs := [7]) (by kernel_rfl) (by simp) ?_
      refine AllReady.cons rfl (fun K hK => ?_) AllReady.nil
      -- 7:  dst := some 20, op := Op.buildSlice 64 1 #[(0, Operand.tmp 19)], type := 64
      go_simp
      have hal := (Below.refl w2.heap.size w2).alloc (Nat.le_refl _) (.cells #[.int .i64 g.wit, .int .i64 g.sig.index, .slice A5 g.sig.parts.length c5, .slice A6 g.sig.path.length c6] 47)
      have i0' := (hal.cell (p := ⟨w.heap.size, 0, none⟩) hbl2).trans j0
      have i1' := (hal.cell (p := ⟨w.heap.size, 1, none⟩) hbl2).trans j1
      have i2' := (hal.cell (p := ⟨w.heap.size, 2, none⟩) hbl2).trans j2
      have i3' := (hal.cell (p := ⟨w.heap.size, 3, none⟩) hbl2).trans j3
      have if' := (hal.cell (p := ⟨f, 12, none⟩) hfl2).trans jf
      refine hK _ _ ?_
      clear hK K
      try simp only [Act.put, List.setIfInBounds_toArray, List.set_cons_zero, List.set_cons_succ]
      refine wpAny_ready (rs := [8]) (by kernel_rfl) (by simp) ?_
      refine AllReady.cons rfl (fun K hK => ?_) AllReady.nil
      -- 8:  dst := some 21, op := Op.call  callee := Callee.builtin Builtin.append, args := #[Operand.tmp 17, Operand.tmp 20], argTypes := 
      skip
      refine step_append_lie rfl (.tmp 17) (.tmp 20) 49 rfl r.kb 47 i0 (.agg #[.int .i64 0, .int .i64 0, .slice none 0 0, .slice none 0 0]) 4 64 Tryz.underlying49 hi0 hz0 hz1 hz2 rfl (by decide) _ d.kept.length us rfl (by rw [← HKV.out]; exact World.ownsRow.alloc H2.out.2.2.2.2.kp _) _ 1 [.int .i64 g.wit, .int .i64 g.sig.index, .slice A5 g.sig.parts.length c5, .slice A6 g.sig.path.length c6] rfl ((Sho.new w2 47 [.int .i64 g.wit, .int .i64 g.sig.index, .slice A5 g.sig.parts.length c5, .slice A6 g.sig.path.length c6] 1 4 1 rfl (Nat.le_refl _) (by decide)).news (fun u hu => by simp at hu; rcases hu with rfl | rfl | rfl | rfl <;> rfl)) (by unfold maxLen; omega) (by omega) (by have := H2.out.2.2.2.2.kbl; simp; omega) ?_
      intro v3 W3 hown3 hgrow3 hlie3
      obtain ⟨A7, c7, rfl⟩ := (Sho.own hown3).form
      have hcA : Chg w2 W3 (fun x => r.kv.ownBlock = some x) := by rw [HKV.out]; exact ((Chg.refl w2 _).alloc _).trans (Chg.of_grown hgrow3) (fun i _ h => h.symm)
      have hc1 : Chg w1 W3 (fun x => r.kv.ownBlock = some x) := ((Chg.refl w1 _).trans (Chg.of_below (S := fun _ => False) H2.out.2.2.1) (fun _ _ h => h.elim)).trans hcA (fun _ _ h => h)
      have b3 := H2.out.2.2.2.2.blk.chg hcA HOK.out.n2
      have hz1 := H2.out.2.2.1.size
      have hzA := hcA.size
      have hkw : ∀ x, r.kv.ownBlock = some x → x < w1.heap.size := fun x hx => (World.ownsRow.lt H1.out.2.2.kp x hx).2
      have hkn : ∀ x, w1.heap.size ≤ x → r.kv.ownBlock ≠ some x := fun x hx e => by have := hkw x e; omega
      have hvn : ∀ x, w1.heap.size ≤ x → x < w2.heap.size → (Value.slice A7 (d.kept.length + 1) c7).ownBlock ≠ some x := fun x hx hx2 => LieOf.ne hlie3 (by rw [← HKV.out]; exact hkn x hx) (by simp; omega)
      have hro : W3.ownsRow r.kb 47 4 (.slice A7 (d.kept.length + 1) c7) (d.kept.length + 1) (us ++ [.int .i64 g.wit, .int .i64 g.sig.index, .slice A5 g.sig.parts.length c5, .slice A6 g.sig.path.length c6]) := hown3
      have hli : (Value.slice A7 (d.kept.length + 1) c7).ownBlock = r.kv.ownBlock ∨ ∃ q, (Value.slice A7 (d.kept.length + 1) c7).ownBlock = some q ∧ w1.heap.size ≤ q := by
        rcases hlie3 with e | ⟨q, e, hq⟩
        · exact .inl (by rw [HKV.out]; exact e)
        · exact .inr ⟨q, e, by simp at hq; omega⟩
      have hcg : CgRow (fun x => Fresh w1 W3 x ∧ (Value.slice A7 (d.kept.length + 1) c7).ownBlock ≠ some x) W3 [.int .i64 g.wit, .int .i64 g.sig.index, .slice A5 g.sig.parts.length c5, .slice A6 g.sig.path.length c6] [g] := by
        have hm : ∀ x, (w1.heap.size ≤ x ∧ x < w2.heap.size) → (Fresh w1 W3 x ∧ (Value.slice A7 (d.kept.length + 1) c7).ownBlock ≠ some x) := fun x hx => ⟨⟨hx.1, by omega⟩, hvn x hx.1 hx.2⟩
        refine ⟨rfl, fun i hi => ?_⟩
        obtain rfl : i = 0 := by simpa using hi
        exact ⟨_, _, rfl, rfl, rfl, rfl, (H2.out.1.chg hcA (fun x hx e => hkn x hx.1 e)).mono hm, (H2.out.2.1.chg hcA (fun x hx e => hkn x hx.1 e)).mono hm⟩
      have x12 := b3.cell 12 _ rfl
      have y12 := b3.free 12
      have hfl3 := b3.lt
      have H3 := Lib.hid (And.intro hro (And.intro hli (And.intro hc1 (And.intro hcg b3))))
      clear hown3 hgrow3 hlie3 hcA hc1 b3 hkw hkn hvn hro hli hcg
      simp only [Act.put, List.getElem_toArray, List.getElem_cons_succ, List.getElem_cons_zero, List.setIfInBounds_toArray, List.set_cons_zero, List.set_cons_succ]
      refine hK _ _ ?_
      clear hK K
      try simp only [Act.put, List.setIfInBounds_toArray, List.set_cons_zero, List.set_cons_succ]
      refine any_yes 9 22 rfl rfl (by kernel_rfl) (by kernel_rfl) (by kernel_rfl) (fun _ _ _ h => h) (by rfl) (v := ?_) ?_ ?_
      rotate_left 1
      · (intro w; go_simp; try with_reducible rfl)
      simp only [List.setIfInBounds_toArray, List.set_cons_zero, List.set_cons_succ]
      refine any_yes 10 23 rfl rfl (by kernel_rfl) (by kernel_rfl) (by kernel_rfl) (fun _ _ _ h => h) (by rfl) (v := ?_) ?_ ?_
      rotate_left 1
      · (intro w; go_simp; try with_reducible rfl)
      simp only [List.setIfInBounds_toArray, List.set_cons_zero, List.set_cons_succ]
      refine wpAny_ready (rs := [11]) (by kernel_rfl) (by simp) ?_
      refine AllReady.cons rfl (fun K hK => ?_) AllReady.nil
      -- 11:  dst := none, op := Op.store 64 (Operand.tmp 23) (Operand.tmp 21), type := 0
      go_simp
      refine hK _ _ ?_
      clear hK K
      try simp only [Act.put, List.setIfInBounds_toArray, List.set_cons_zero, List.set_cons_succ]
      refine wpAny_done (by kernel_rfl) ?_ _
  case' w2_4 =>
    -- 4:  dst := some 17, op := Op.load 64 (Operand.tmp 16), type := 64
    go_simp
    refine hK _ _ ?_
    clear hK K
    try simp only [Act.put, List.setIfInBounds_toArray, List.set_cons_zero, List.set_cons_succ]
    refine wpAny_ready (rs := [5]) (by kernel_rfl) (by simp) ?_
    refine AllReady.cons rfl (fun K hK => ?_) AllReady.nil
    -- 5:  dst := some 18, op := Op.load 58 (Operand.tmp 5), type := 58
    go_simp
    refine hK _ _ ?_
    clear hK K
    try simp only [Act.put, List.setIfInBounds_toArray, List.set_cons_zero, List.set_cons_succ]
    refine wpAny_ready (rs := [6]) (by kernel_rfl) (by simp) ?_
    refine AllReady.cons rfl (fun K hK => ?_) AllReady.nil
    -- 6:  dst := some 19, op := Op.call  callee := Callee.value (Operand.func 40), args := #[Operand.tmp 18], argTypes := #[58] , type :
    go_simp
    go_at_call 33
    refine (HCP.out w1 _ ⟨_, _, rfl, HX.out.1.below H1.out.2.1, HX.out.2.below H1.out.2.1⟩).mono ?_
    rintro e w2 ⟨v2, rfl, ⟨p2, q2, rfl, h2, h3⟩, h4⟩
    obtain ⟨A5, c5, rfl⟩ := h2.rws.form
    obtain ⟨A6, c6, rfl⟩ := h3.rws.form
    have kA := H1.out.1.below h4
    have kF := H1.out.2.2.below h4
    have j0 := kA.cell 0 _ rfl
    have j1 := kA.cell 1 _ rfl
    have j2 := kA.cell 2 _ rfl
    have j3 := kA.cell 3 _ rfl
    have jf : w2.cell? ⟨f, 12, none⟩ = some (.slice KA d.kept.length kc) := by rw [← HKV.out]; exact kF.blk.cell 12 _ rfl
    have hfl2 := kF.blk.lt
    have hbl2 := kA.lt
    have H2 := Lib.hid (And.intro (show RwsF (fun x => w1.heap.size ≤ x ∧ x < w2.heap.size) w2 (.slice A5 g.sig.parts.length c5) g.sig.parts from h2) (And.intro (show RwsF (fun x => w1.heap.size ≤ x ∧ x < w2.heap.size) w2 (.slice A6 g.sig.path.length c6) g.sig.path from h3) (And.intro h4 (And.intro kA kF))))
    clear h2 h3 h4 kA kF
    try dsimp only
    refine hK _ _ ?_
    clear hK K
    try simp only [Act.put, List.setIfInBounds_toArray, List.set_cons_zero, List.set_cons_succ]
    refine wpAny_ready (rs := [7]) (by kernel_rfl) (by simp) ?_
    refine AllReady.cons rfl (fun K hK => ?_) AllReady.nil
    -- 7:  dst := some 20, op := Op.buildSlice 64 1 #[(0, Operand.tmp 19)], type := 64
    go_simp
    have hal := (Below.refl w2.heap.size w2).alloc (Nat.le_refl _) (.cells #[.int .i64 g.wit, .int .i64 g.sig.index, .slice A5 g.sig.parts.length c5, .slice A6 g.sig.path.length c6] 47)
    have i0' := (hal.cell (p := ⟨w.heap.size, 0, none⟩) hbl2).trans j0
    have i1' := (hal.cell (p := ⟨w.heap.size, 1, none⟩) hbl2).trans j1
    have i2' := (hal.cell (p := ⟨w.heap.size, 2, none⟩) hbl2).trans j2
    have i3' := (hal.cell (p := ⟨w.heap.size, 3, none⟩) hbl2).trans j3
    have if' := (hal.cell (p := ⟨f, 12, none⟩) hfl2).trans jf
    refine hK _ _ ?_
    clear hK K
    try simp only [Act.put, List.setIfInBounds_toArray, List.set_cons_zero, List.set_cons_succ]
    refine wpAny_ready (rs := [8]) (by kernel_rfl) (by simp) ?_
    refine AllReady.cons rfl (fun K hK => ?_) AllReady.nil
    -- 8:  dst := some 21, op := Op.call  callee := Callee.builtin Builtin.append, args := #[Operand.tmp 17, Operand.tmp 20], argTypes := 
    skip
    refine step_append_lie rfl (.tmp 17) (.tmp 20) 49 rfl r.kb 47 i0 (.agg #[.int .i64 0, .int .i64 0, .slice none 0 0, .slice none 0 0]) 4 64 Tryz.underlying49 hi0 hz0 hz1 hz2 rfl (by decide) _ d.kept.length us rfl (by rw [← HKV.out]; exact World.ownsRow.alloc H2.out.2.2.2.2.kp _) _ 1 [.int .i64 g.wit, .int .i64 g.sig.index, .slice A5 g.sig.parts.length c5, .slice A6 g.sig.path.length c6] rfl ((Sho.new w2 47 [.int .i64 g.wit, .int .i64 g.sig.index, .slice A5 g.sig.parts.length c5, .slice A6 g.sig.path.length c6] 1 4 1 rfl (Nat.le_refl _) (by decide)).news (fun u hu => by simp at hu; rcases hu with rfl | rfl | rfl | rfl <;> rfl)) (by unfold maxLen; omega) (by omega) (by have := H2.out.2.2.2.2.kbl; simp; omega) ?_
    intro v3 W3 hown3 hgrow3 hlie3
    obtain ⟨A7, c7, rfl⟩ := (Sho.own hown3).form
    have hcA : Chg w2 W3 (fun x => r.kv.ownBlock = some x) := by rw [HKV.out]; exact ((Chg.refl w2 _).alloc _).trans (Chg.of_grown hgrow3) (fun i _ h => h.symm)
    have hc1 : Chg w1 W3 (fun x => r.kv.ownBlock = some x) := ((Chg.refl w1 _).trans (Chg.of_below (S := fun _ => False) H2.out.2.2.1) (fun _ _ h => h.elim)).trans hcA (fun _ _ h => h)
    have b3 := H2.out.2.2.2.2.blk.chg hcA HOK.out.n2
    have hz1 := H2.out.2.2.1.size
    have hzA := hcA.size
    have hkw : ∀ x, r.kv.ownBlock = some x → x < w1.heap.size := fun x hx => (World.ownsRow.lt H1.out.2.2.kp x hx).2
    have hkn : ∀ x, w1.heap.size ≤ x → r.kv.ownBlock ≠ some x := fun x hx e => by have := hkw x e; omega
    have hvn : ∀ x, w1.heap.size ≤ x → x < w2.heap.size → (Value.slice A7 (d.kept.length + 1) c7).ownBlock ≠ some x := fun x hx hx2 => LieOf.ne hlie3 (by rw [← HKV.out]; exact hkn x hx) (by simp; omega)
    have hro : W3.ownsRow r.kb 47 4 (.slice A7 (d.kept.length + 1) c7) (d.kept.length + 1) (us ++ [.int .i64 g.wit, .int .i64 g.sig.index, .slice A5 g.sig.parts.length c5, .slice A6 g.sig.path.length c6]) := hown3
    have hli : (Value.slice A7 (d.kept.length + 1) c7).ownBlock = r.kv.ownBlock ∨ ∃ q, (Value.slice A7 (d.kept.length + 1) c7).ownBlock = some q ∧ w1.heap.size ≤ q := by
      rcases hlie3 with e | ⟨q, e, hq⟩
      · exact .inl (by rw [HKV.out]; exact e)
      · exact .inr ⟨q, e, by simp at hq; omega⟩
    have hcg : CgRow (fun x => Fresh w1 W3 x ∧ (Value.slice A7 (d.kept.length + 1) c7).ownBlock ≠ some x) W3 [.int .i64 g.wit, .int .i64 g.sig.index, .slice A5 g.sig.parts.length c5, .slice A6 g.sig.path.length c6] [g] := by
      have hm : ∀ x, (w1.heap.size ≤ x ∧ x < w2.heap.size) → (Fresh w1 W3 x ∧ (Value.slice A7 (d.kept.length + 1) c7).ownBlock ≠ some x) := fun x hx => ⟨⟨hx.1, by omega⟩, hvn x hx.1 hx.2⟩
      refine ⟨rfl, fun i hi => ?_⟩
      obtain rfl : i = 0 := by simpa using hi
      exact ⟨_, _, rfl, rfl, rfl, rfl, (H2.out.1.chg hcA (fun x hx e => hkn x hx.1 e)).mono hm, (H2.out.2.1.chg hcA (fun x hx e => hkn x hx.1 e)).mono hm⟩
    have x12 := b3.cell 12 _ rfl
    have y12 := b3.free 12
    have hfl3 := b3.lt
    have H3 := Lib.hid (And.intro hro (And.intro hli (And.intro hc1 (And.intro hcg b3))))
    clear hown3 hgrow3 hlie3 hcA hc1 b3 hkw hkn hvn hro hli hcg
    simp only [Act.put, List.getElem_toArray, List.getElem_cons_succ, List.getElem_cons_zero, List.setIfInBounds_toArray, List.set_cons_zero, List.set_cons_succ]
    refine hK _ _ ?_
    clear hK K
    try simp only [Act.put, List.setIfInBounds_toArray, List.set_cons_zero, List.set_cons_succ]
    refine any_yes 9 22 rfl rfl (by kernel_rfl) (by kernel_rfl) (by kernel_rfl) (fun _ _ _ h => h) (by rfl) (v := ?_) ?_ ?_
    rotate_left 1
    · (intro w; go_simp; try with_reducible rfl)
    simp only [List.setIfInBounds_toArray, List.set_cons_zero, List.set_cons_succ]
    refine any_yes 10 23 rfl rfl (by kernel_rfl) (by kernel_rfl) (by kernel_rfl) (fun _ _ _ h => h) (by rfl) (v := ?_) ?_ ?_
    rotate_left 1
    · (intro w; go_simp; try with_reducible rfl)
    simp only [List.setIfInBounds_toArray, List.set_cons_zero, List.set_cons_succ]
    refine wpAny_ready (rs := [11]) (by kernel_rfl) (by simp) ?_
    refine AllReady.cons rfl (fun K hK => ?_) AllReady.nil
    -- 11:  dst := none, op := Op.store 64 (Operand.tmp 23) (Operand.tmp 21), type := 0
    go_simp
    refine hK _ _ ?_
    clear hK K
    try simp only [Act.put, List.setIfInBounds_toArray, List.set_cons_zero, List.set_cons_succ]
    refine wpAny_done (by kernel_rfl) ?_ _
  all_goals
    have hc2 : Chg W3 (W3.setCell ⟨f, 12, none⟩ (.slice A7 (d.kept.length + 1) c7)) (fun k => k = f) := chg_cell (Chg.refl W3 _) 12 (.slice A7 (d.kept.length + 1) c7)
    have hb2 : Blk (W3.setCell ⟨f, 12, none⟩ (.slice A7 (d.kept.length + 1) c7)) f 68 (fdCells { d with kept := d.kept ++ [g] } { r with kv := .slice A7 (d.kept.length + 1) c7 }) := H3.out.2.2.2.2.set 12 (.slice A7 (d.kept.length + 1) c7) (by simp [fdCells])
    have hk4 := H1.out.2.2.kept H3.out.1 H3.out.2.1 H3.out.2.2.1 H3.out.2.2.2.1 hc2 hb2
    have hch : Chg w (W3.setCell ⟨f, 12, none⟩ (.slice A7 (d.kept.length + 1) c7)) Z := ((Chg.refl w Z).trans (Chg.of_below (S := fun _ => False) H1.out.2.1) (fun _ _ h => h.elim)).trans H3.out.2.2.1 (fun x _ e => HOK.out.mz x (.inr (.inr (.inl e)))) |>.trans hc2 (fun x _ e => HOK.out.mz x (.inl e))
    have hz14 : w.heap.size ≤ w1.heap.size := H1.out.2.1.size
    generalize hW4 : W3.setCell ⟨f, 12, none⟩ (.slice A7 (d.kept.length + 1) c7) = W4 at *
    have H4 := Lib.hid (And.intro hk4 hch)
    have hlk : k < d.l.length := hk
    have z6 : W4.cell? ⟨f, 6, none⟩ = some (.int .i64 d.cur.ck.num) := hk4.blk.cell 6 _ rfl
    have z4 : W4.cell? ⟨f, 4, none⟩ = some (.pointer (some ⟨r.ab, 0, none⟩)) := hk4.blk.cell 4 _ rfl
    have s0 := hk4.wt.cell _ _ (cellsW_at d.l k hk).1
    have s2 := hk4.wt.cell _ _ (cellsW_at d.l k hk).2.2
    have y0 := hk4.wt.free (k * 3)
    have y2 := hk4.wt.free (k * 3 + 2)
    have hlf := hk4.blk.lt
    have hll := hk4.wt.lt
    have hn1 := hk4.n1
    clear hW4 hc2 hb2 hk4 hch x12 y12
    go_wp2_with fail
    have hc5 : Chg W4 ((W4.setCell ⟨r.lb, k * 3 + 2, none⟩ (.bool true)).setCell ⟨r.lb, k * 3, none⟩ (.int .i64 d.cur.ck.num)) (fun x => x = r.lb) := chg_cell (chg_cell (Chg.refl W4 _) (k * 3 + 2) _) (k * 3) _
    have hb5 : Blk ((W4.setCell ⟨r.lb, k * 3 + 2, none⟩ (.bool true)).setCell ⟨r.lb, k * 3, none⟩ (.int .i64 d.cur.ck.num)) r.lb 74 (cellsW (d.l.set k ⟨d.cur.ck.num, (wAt d.l k).tries, true⟩)) := by
      rw [cellsW_kept d.l k _ hk]
      have hl2 := (List.getElem?_eq_some_iff.1 (cellsW_at d.l k hk).2.2).1
      exact (H4.out.1.wt.set (k * 3 + 2) _ hl2).set (k * 3) _ (by have hl0 := (List.getElem?_eq_some_iff.1 (cellsW_at d.l k hk).1).1; show k * 3 < (List.set _ _ _).length; rw [List.length_set]; exact hl0)
    have hk5 := H4.out.1.setW (d.l.set k ⟨d.cur.ck.num, (wAt d.l k).tries, true⟩) (by simp) hc5 hb5
    have hch5 := H4.out.2.trans hc5 (fun x _ e => HOK.out.mz x (.inr (.inl e)))
    have hz45 := hc5.size
    generalize (W4.setCell ⟨r.lb, k * 3 + 2, none⟩ (.bool true)).setCell ⟨r.lb, k * 3, none⟩ (.int .i64 d.cur.ck.num) = W5 at *
    have hzW : Chg w W5 Z := hch5
    refine (cancel_any r.base r.ab r.av d.m d.ord (k : Int) (by omega) W5 hk5.ag).mono ?_
    rintro e W6 ⟨v6, rfl, h1, h2, h3⟩
    have H6 := Lib.hid (And.intro (hk5.agenda0 h1 h2 h3).1 (hch5.trans h3 (fun x _ e => HOK.out.mz x (.inr (.inr (.inr e))))))
    have hz56 := h3.size
    clear h1 h2 h3 hk5 hch5 hzW hc5 hb5 z4 z6 s0 s2 y0 y2
    have n12 : W6.cell? ⟨f, 12, none⟩ = some (.slice A7 (d.kept.length + 1) c7) := H6.out.1.blk.cell 12 _ rfl
    have n2 : W6.cell? ⟨f, 2, none⟩ = some (.int .i64 d.p.quorum) := H6.out.1.blk.cell 2 _ rfl
    have hf6 := H6.out.1.blk.lt
    go_wp2
    refine wp_region_held_drew (S := fun w' => w'.cell? ⟨f, 12, none⟩ = some (.slice A7 (d.kept.length + 1) c7) ∧ w'.cell? ⟨f, 2, none⟩ = some (.int .i64 d.p.quorum)) (by kernel_rfl) ?_ (fun hHeld => ?_)
    · exact ⟨n12, n2⟩
    refine take_yes 0 42 rfl rfl (by kernel_rfl) (by kernel_rfl) (by kernel_rfl) (fun _ _ _ h => h) (by assumption) (by rfl) (v := ?_) ?_ ?_
    rotate_left 1
    · (intro w hSw; (try dsimp only at hSw); go_simp; try with_reducible rfl)
    simp only [List.setIfInBounds_toArray, List.set_cons_zero, List.set_cons_succ]
    refine take_yes 1 43 rfl rfl (by kernel_rfl) (by kernel_rfl) (by kernel_rfl) (fun _ _ _ h => h) (by assumption) (by rfl) (v := ?_) ?_ ?_
    rotate_left 1
    · (intro w hSw; (try dsimp only at hSw); go_simp; try with_reducible rfl)
    simp only [List.setIfInBounds_toArray, List.set_cons_zero, List.set_cons_succ]
    refine take_yes 2 44 rfl rfl (by kernel_rfl) (by kernel_rfl) (by kernel_rfl) (fun _ _ _ h => h) (by assumption) (by rfl) (v := ?_) ?_ ?_
    rotate_left 1
    · (intro w hSw; (try dsimp only at hSw); go_simp; try with_reducible rfl)
    simp only [List.setIfInBounds_toArray, List.set_cons_zero, List.set_cons_succ]
    refine take_yes 3 45 rfl rfl (by kernel_rfl) (by kernel_rfl) (by kernel_rfl) (fun _ _ _ h => h) (by assumption) (by rfl) (v := ?_) ?_ ?_
    rotate_left 1
    · (intro w hSw; (try dsimp only at hSw); go_simp; try with_reducible rfl)
    simp only [List.setIfInBounds_toArray, List.set_cons_zero, List.set_cons_succ]
    refine take_yes 4 46 rfl rfl (by kernel_rfl) (by kernel_rfl) (by kernel_rfl) (fun _ _ _ h => h) (by assumption) (by rfl) (v := ?_) ?_ ?_
    rotate_left 1
    · (intro w hSw; (try dsimp only at hSw); go_simp; try with_reducible rfl)
    simp only [List.setIfInBounds_toArray, List.set_cons_zero, List.set_cons_succ]
    refine take_yes 5 47 rfl rfl (by kernel_rfl) (by kernel_rfl) (by kernel_rfl) (fun _ _ _ h => h) (by assumption) (by rfl) (v := ?_) ?_ ?_
    rotate_left 1
    · (intro w hSw; (try dsimp only at hSw); go_simp; try with_reducible rfl)
    simp only [List.setIfInBounds_toArray, List.set_cons_zero, List.set_cons_succ]
    refine take_yes 6 48 rfl rfl (by kernel_rfl) (by kernel_rfl) (by kernel_rfl) (fun _ _ _ h => h) (by assumption) (by rfl) (v := ?_) ?_ ?_
    rotate_left 1
    · (intro w hSw; (try dsimp only at hSw); go_simp; try with_reducible rfl)
    simp only [List.setIfInBounds_toArray, List.set_cons_zero, List.set_cons_succ]
    refine take_yes 7 49 rfl rfl (by kernel_rfl) (by kernel_rfl) (by kernel_rfl) (fun _ _ _ h => h) (by assumption) (by rfl) (v := ?_) ?_ ?_
    rotate_left 1
    · (intro w hSw; (try dsimp only at hSw); go_simp; try with_reducible rfl)
    simp only [List.setIfInBounds_toArray, List.set_cons_zero, List.set_cons_succ]
    refine take_yes 8 50 rfl rfl (by kernel_rfl) (by kernel_rfl) (by kernel_rfl) (fun _ _ _ h => h) (by assumption) (by rfl) (v := ?_) ?_ ?_
    rotate_left 1
    · (intro w hSw; (try dsimp only at hSw); go_simp; try with_reducible rfl)
    simp only [List.setIfInBounds_toArray, List.set_cons_zero, List.set_cons_succ]
    refine take_yes 9 51 rfl rfl (by kernel_rfl) (by kernel_rfl) (by kernel_rfl) (fun _ _ _ h => h) (by assumption) (by rfl) (v := ?_) ?_ ?_
    rotate_left 1
    · (intro w hSw; (try dsimp only at hSw); go_simp; try with_reducible rfl)
    simp only [List.setIfInBounds_toArray, List.set_cons_zero, List.set_cons_succ]
    refine take_yes 10 52 rfl rfl (by kernel_rfl) (by kernel_rfl) (by kernel_rfl) (fun _ _ _ h => h) (by assumption) (by rfl) (v := ?_) ?_ ?_
    rotate_left 1
    · (intro w hSw; (try dsimp only at hSw); go_simp; try with_reducible rfl)
    simp only [List.setIfInBounds_toArray, List.set_cons_zero, List.set_cons_succ]
    refine wpAnyH_done (by kernel_rfl) ?_ _
    by_cases hq : d.p.quorum ≤ ((d.kept.length + 1 : Nat) : Int)
    · have hq2 : d.p.quorum ≤ (d.kept.length : Int) + 1 := by omega
      have hdr := (Below.refl W6.heap.size W6).drew
      have H7 := Lib.hid (And.intro (H6.out.1.below hdr) (H6.out.2.trans (Chg.of_below (S := fun _ => False) hdr) (fun _ _ h => h.elim)))
      have hz67 := hdr.size
      clear hdr hHeld n12 n2
      generalize W6.drew = W7 at *
      obtain ⟨RA, rc, hr1⟩ := HOK.out.tx.cr.1.form
      obtain ⟨RP, rp, hr2⟩ := HOK.out.tx.cp.rws.form
      obtain ⟨RQ, rq, hr3⟩ := HOK.out.tx.cq.rws.form
      have HRC := Lib.hid (And.intro hr1 (And.intro hr2 hr3))
      clear hr1 hr2 hr3
      have HCL := Lib.hid (fun (wz : World) (hz : Sho wz (.slice A7 (d.kept.length + 1) c7) (d.kept.length + 1) 4 (us ++ [.int .i64 g.wit, .int .i64 g.sig.index, .slice A5 g.sig.parts.length c5, .slice A6 g.sig.path.length c6])) => clonecg_any _ _ _ (by omega) H7.out.1.tx.kd.one wz hz)
      have m6 : W7.cell? ⟨f, 6, none⟩ = some (.int .i64 d.cur.ck.num) := by exact H7.out.1.blk.cell 6 _ rfl
      have m7 : W7.cell? ⟨f, 7, none⟩ = some (.slice RA d.cur.ck.root.length rc) := by rw [← HRC.out.1]; exact H7.out.1.blk.cell 7 _ rfl
      have m8 : W7.cell? ⟨f, 8, none⟩ = some (.int .i64 d.cur.sig.index) := by exact H7.out.1.blk.cell 8 _ rfl
      have m9 : W7.cell? ⟨f, 9, none⟩ = some (.slice RP d.cur.sig.parts.length rp) := by rw [← HRC.out.2.1]; exact H7.out.1.blk.cell 9 _ rfl
      have m10 : W7.cell? ⟨f, 10, none⟩ = some (.slice RQ d.cur.sig.path.length rq) := by rw [← HRC.out.2.2]; exact H7.out.1.blk.cell 10 _ rfl
      have m12 : W7.cell? ⟨f, 12, none⟩ = some (.slice A7 (d.kept.length + 1) c7) := by exact H7.out.1.blk.cell 12 _ rfl
      have hf7 := H7.out.1.blk.lt
      have hkp7 : W7.ownsRow r.kb 47 4 (.slice A7 (d.kept.length + 1) c7) (d.kept.length + 1) (us ++ [.int .i64 g.wit, .int .i64 g.sig.index, .slice A5 g.sig.parts.length c5, .slice A6 g.sig.path.length c6]) := by
        have h9 := H7.out.1.kp
        simpa only [List.length_append, List.length_cons, List.length_nil, Nat.zero_add] using h9
      go_wp2
      refine wp_region_held_drew (S := fun w' => w'.cell? ⟨f, 6, none⟩ = some (.int .i64 d.cur.ck.num) ∧ w'.cell? ⟨f, 7, none⟩ = some (.slice RA d.cur.ck.root.length rc) ∧ w'.cell? ⟨f, 8, none⟩ = some (.int .i64 d.cur.sig.index) ∧ w'.cell? ⟨f, 9, none⟩ = some (.slice RP d.cur.sig.parts.length rp) ∧ w'.cell? ⟨f, 10, none⟩ = some (.slice RQ d.cur.sig.path.length rq) ∧ w'.cell? ⟨f, 12, none⟩ = some (.slice A7 (d.kept.length + 1) c7)) (by kernel_rfl) ?_ (fun hHeld => ?_)
      · exact ⟨m6, m7, m8, m9, m10, m12⟩
      refine take_yes 0 53 rfl rfl (by kernel_rfl) (by kernel_rfl) (by kernel_rfl) (fun _ _ _ h => h) (by assumption) (by rfl) (v := ?_) ?_ ?_
      rotate_left 1
      · (intro w hSw; (try dsimp only at hSw); go_simp; try with_reducible rfl)
      simp only [List.setIfInBounds_toArray, List.set_cons_zero, List.set_cons_succ]
      refine take_yes 1 54 rfl rfl (by kernel_rfl) (by kernel_rfl) (by kernel_rfl) (fun _ _ _ h => h) (by assumption) (by rfl) (v := ?_) ?_ ?_
      rotate_left 1
      · (intro w hSw; (try dsimp only at hSw); go_simp; try with_reducible rfl)
      simp only [List.setIfInBounds_toArray, List.set_cons_zero, List.set_cons_succ]
      refine take_yes 2 55 rfl rfl (by kernel_rfl) (by kernel_rfl) (by kernel_rfl) (fun _ _ _ h => h) (by assumption) (by rfl) (v := ?_) ?_ ?_
      rotate_left 1
      · (intro w hSw; (try dsimp only at hSw); go_simp; try with_reducible rfl)
      simp only [List.setIfInBounds_toArray, List.set_cons_zero, List.set_cons_succ]
      refine take_yes 3 56 rfl rfl (by kernel_rfl) (by kernel_rfl) (by kernel_rfl) (fun _ _ _ h => h) (by assumption) (by rfl) (v := ?_) ?_ ?_
      rotate_left 1
      · (intro w hSw; (try dsimp only at hSw); go_simp; try with_reducible rfl)
      simp only [List.setIfInBounds_toArray, List.set_cons_zero, List.set_cons_succ]
      refine take_yes 4 57 rfl rfl (by kernel_rfl) (by kernel_rfl) (by kernel_rfl) (fun _ _ _ h => h) (by assumption) (by rfl) (v := ?_) ?_ ?_
      rotate_left 1
      · (intro w hSw; (try dsimp only at hSw); go_simp; try with_reducible rfl)
      simp only [List.setIfInBounds_toArray, List.set_cons_zero, List.set_cons_succ]
      refine take_yes 5 58 rfl rfl (by kernel_rfl) (by kernel_rfl) (by kernel_rfl) (fun _ _ _ h => h) (by assumption) (by rfl) (v := ?_) ?_ ?_
      rotate_left 1
      · (intro w hSw; (try dsimp only at hSw); go_simp; try with_reducible rfl)
      simp only [List.setIfInBounds_toArray, List.set_cons_zero, List.set_cons_succ]
      refine take_yes 6 59 rfl rfl (by kernel_rfl) (by kernel_rfl) (by kernel_rfl) (fun _ _ _ h => h) (by assumption) (by rfl) (v := ?_) ?_ ?_
      rotate_left 1
      · (intro w hSw; (try dsimp only at hSw); go_simp; try with_reducible rfl)
      simp only [List.setIfInBounds_toArray, List.set_cons_zero, List.set_cons_succ]
      refine take_yes 7 60 rfl rfl (by kernel_rfl) (by kernel_rfl) (by kernel_rfl) (fun _ _ _ h => h) (by assumption) (by rfl) (v := ?_) ?_ ?_
      rotate_left 1
      · (intro w hSw; (try dsimp only at hSw); go_simp; try with_reducible rfl)
      simp only [List.setIfInBounds_toArray, List.set_cons_zero, List.set_cons_succ]
      refine take_yes 8 61 rfl rfl (by kernel_rfl) (by kernel_rfl) (by kernel_rfl) (fun _ _ _ h => h) (by assumption) (by rfl) (v := ?_) ?_ ?_
      rotate_left 1
      · (intro w hSw; (try dsimp only at hSw); go_simp; try with_reducible rfl)
      simp only [List.setIfInBounds_toArray, List.set_cons_zero, List.set_cons_succ]
      refine take_yes 9 62 rfl rfl (by kernel_rfl) (by kernel_rfl) (by kernel_rfl) (fun _ _ _ h => h) (by assumption) (by rfl) (v := ?_) ?_ ?_
      rotate_left 1
      · (intro w hSw; (try dsimp only at hSw); go_simp; try with_reducible rfl)
      simp only [List.setIfInBounds_toArray, List.set_cons_zero, List.set_cons_succ]
      refine wpAnyH_ready (rs := [10]) (by kernel_rfl) (by simp) ?_
      refine AllReadyH.cons rfl (fun K hK => ?_) AllReadyH.nil
      -- 10:  dst := some 63, op := Op.call  callee := Callee.value (Operand.func 63), args := #[Operand.tmp 62], argTypes := #[64] , type :
      go_simp
      go_at_call 59
      refine (HCL.out W7.drew (Sho.own (ownsRow_chg hkp7 (Chg.of_below (S := fun _ => False) (Below.refl W7.heap.size W7).drew) (fun _ _ h => h)))).mono ?_
      rintro e W8 ⟨v8, rfl, h8, h9'⟩
      have h9 : Below W7.heap.size W7 W8 := ⟨h9'.os, h9'.tape, h9'.output, h9'.size, h9'.block⟩
      obtain ⟨A8, c8, rfl⟩ := (Sho.own h8).form
      have k8 := H7.out.1.below h9
      have u6 : W8.cell? ⟨f, 6, none⟩ = some (.int .i64 d.cur.ck.num) := by exact k8.blk.cell 6 _ rfl
      have u7 : W8.cell? ⟨f, 7, none⟩ = some (.slice RA d.cur.ck.root.length rc) := by rw [← HRC.out.1]; exact k8.blk.cell 7 _ rfl
      have u8 : W8.cell? ⟨f, 8, none⟩ = some (.int .i64 d.cur.sig.index) := by exact k8.blk.cell 8 _ rfl
      have u9 : W8.cell? ⟨f, 9, none⟩ = some (.slice RP d.cur.sig.parts.length rp) := by rw [← HRC.out.2.1]; exact k8.blk.cell 9 _ rfl
      have u10 : W8.cell? ⟨f, 10, none⟩ = some (.slice RQ d.cur.sig.path.length rq) := by rw [← HRC.out.2.2]; exact k8.blk.cell 10 _ rfl
      have u12 : W8.cell? ⟨f, 12, none⟩ = some (.slice A7 (d.kept.length + 1) c7) := by exact k8.blk.cell 12 _ rfl
      have hl8 := k8.blk.lt
      have y13 := k8.blk.free 13
      have y14 := k8.blk.free 14
      have y15 := k8.blk.free 15
      have y16 := k8.blk.free 16
      have y17 := k8.blk.free 17
      have y18 := k8.blk.free 18
      have x13 := k8.blk.cell 13 _ rfl
      have x14 := k8.blk.cell 14 _ rfl
      have x15 := k8.blk.cell 15 _ rfl
      have x16 := k8.blk.cell 16 _ rfl
      have x17 := k8.blk.cell 17 _ rfl
      have x18 := k8.blk.cell 18 _ rfl
      have H8 := Lib.hid (And.intro h8 (And.intro h9 k8))
      clear h8 h9 h9' k8
      try dsimp only
      refine hK.out _ _ ⟨u6, u7, u8, u9, u10, u12⟩ (fun hHeld10 => ?_)
      clear hK K
      try simp only [Act.put, List.setIfInBounds_toArray, List.set_cons_zero, List.set_cons_succ]
      refine take_yes 11 64 rfl rfl (by kernel_rfl) (by kernel_rfl) (by kernel_rfl) (fun _ _ _ h => h) (by assumption) (by rfl) (v := ?_) ?_ ?_
      rotate_left 1
      · (intro w hSw; (try dsimp only at hSw); go_simp; try with_reducible rfl)
      simp only [List.setIfInBounds_toArray, List.set_cons_zero, List.set_cons_succ]
      refine take_yes 12 65 rfl rfl (by kernel_rfl) (by kernel_rfl) (by kernel_rfl) (fun _ _ _ h => h) (by assumption) (by rfl) (v := ?_) ?_ ?_
      rotate_left 1
      · (intro w hSw; (try dsimp only at hSw); go_simp; try with_reducible rfl)
      simp only [List.setIfInBounds_toArray, List.set_cons_zero, List.set_cons_succ]
      refine wpAnyH_ready (rs := [13]) (by kernel_rfl) (by simp) ?_
      refine AllReadyH.cons rfl (fun K hK => ?_) AllReadyH.nil
      -- 13:  dst := none, op := Op.store 40 (Operand.tmp 65) (Operand.tmp 58), type := 0
      go_simp
      have b9 := (((((H8.out.2.2.blk.set 13 (.int .i64 d.cur.ck.num) (by simp [fdCells])).set 14 (.slice RA d.cur.ck.root.length rc) (by simp [fdCells])).set 15 (.int .i64 d.cur.sig.index) (by simp [fdCells])).set 16 (.slice RP d.cur.sig.parts.length rp) (by simp [fdCells])).set 17 (.slice RQ d.cur.sig.path.length rq) (by simp [fdCells]))
      have hc9 : Chg W8 (((((W8.setCell ⟨f, 13, none⟩ (.int .i64 d.cur.ck.num)).setCell ⟨f, 14, none⟩ (.slice RA d.cur.ck.root.length rc)).setCell ⟨f, 15, none⟩ (.int .i64 d.cur.sig.index)).setCell ⟨f, 16, none⟩ (.slice RP d.cur.sig.parts.length rp)).setCell ⟨f, 17, none⟩ (.slice RQ d.cur.sig.path.length rq)) (fun k => k = f) := (chg_cell (chg_cell (chg_cell (chg_cell (chg_cell (Chg.refl W8 _) 13 (.int .i64 d.cur.ck.num)) 14 (.slice RA d.cur.ck.root.length rc)) 15 (.int .i64 d.cur.sig.index)) 16 (.slice RP d.cur.sig.parts.length rp)) 17 (.slice RQ d.cur.sig.path.length rq))
      generalize (((((W8.setCell ⟨f, 13, none⟩ (.int .i64 d.cur.ck.num)).setCell ⟨f, 14, none⟩ (.slice RA d.cur.ck.root.length rc)).setCell ⟨f, 15, none⟩ (.int .i64 d.cur.sig.index)).setCell ⟨f, 16, none⟩ (.slice RP d.cur.sig.parts.length rp)).setCell ⟨f, 17, none⟩ (.slice RQ d.cur.sig.path.length rq)) = W9 at *
      have t6 : W9.cell? ⟨f, 6, none⟩ = some (.int .i64 d.cur.ck.num) := by exact b9.cell 6 _ rfl
      have t7 : W9.cell? ⟨f, 7, none⟩ = some (.slice RA d.cur.ck.root.length rc) := by rw [← HRC.out.1]; exact b9.cell 7 _ rfl
      have t8 : W9.cell? ⟨f, 8, none⟩ = some (.int .i64 d.cur.sig.index) := by exact b9.cell 8 _ rfl
      have t9 : W9.cell? ⟨f, 9, none⟩ = some (.slice RP d.cur.sig.parts.length rp) := by rw [← HRC.out.2.1]; exact b9.cell 9 _ rfl
      have t10 : W9.cell? ⟨f, 10, none⟩ = some (.slice RQ d.cur.sig.path.length rq) := by rw [← HRC.out.2.2]; exact b9.cell 10 _ rfl
      have t12 : W9.cell? ⟨f, 12, none⟩ = some (.slice A7 (d.kept.length + 1) c7) := by exact b9.cell 12 _ rfl
      have y18' := b9.free 18
      have x18' := b9.cell 18 _ rfl
      have hl9 := b9.lt
      have H9 := Lib.hid (And.intro b9 hc9)
      clear b9 hc9
      refine hK.out _ _ ⟨t6, t7, t8, t9, t10, t12⟩ (fun hHeld13 => ?_)
      clear hK K
      try simp only [Act.put, List.setIfInBounds_toArray, List.set_cons_zero, List.set_cons_succ]
      refine take_yes 14 66 rfl rfl (by kernel_rfl) (by kernel_rfl) (by kernel_rfl) (fun _ _ _ h => h) (by assumption) (by rfl) (v := ?_) ?_ ?_
      rotate_left 1
      · (intro w hSw; (try dsimp only at hSw); go_simp; try with_reducible rfl)
      simp only [List.setIfInBounds_toArray, List.set_cons_zero, List.set_cons_succ]
      refine take_yes 15 67 rfl rfl (by kernel_rfl) (by kernel_rfl) (by kernel_rfl) (fun _ _ _ h => h) (by assumption) (by rfl) (v := ?_) ?_ ?_
      rotate_left 1
      · (intro w hSw; (try dsimp only at hSw); go_simp; try with_reducible rfl)
      simp only [List.setIfInBounds_toArray, List.set_cons_zero, List.set_cons_succ]
      refine wpAnyH_ready (rs := [16]) (by kernel_rfl) (by simp) ?_
      refine AllReadyH.cons rfl (fun K hK => ?_) AllReadyH.nil
      -- 16:  dst := none, op := Op.store 64 (Operand.tmp 67) (Operand.tmp 63), type := 0
      go_simp
      have b10 := H9.out.1.set 18 (.slice A8 (d.kept.length + 1) c8) (by simp [fdCells])
      have hc10 := H9.out.2.trans (chg_cell (Chg.refl W9 (fun k => k = f)) 18 (.slice A8 (d.kept.length + 1) c8)) (fun _ _ h => h)
      generalize W9.setCell ⟨f, 18, none⟩ (.slice A8 (d.kept.length + 1) c8) = W10 at *
      have s6 : W10.cell? ⟨f, 6, none⟩ = some (.int .i64 d.cur.ck.num) := by exact b10.cell 6 _ rfl
      have s7 : W10.cell? ⟨f, 7, none⟩ = some (.slice RA d.cur.ck.root.length rc) := by rw [← HRC.out.1]; exact b10.cell 7 _ rfl
      have s8 : W10.cell? ⟨f, 8, none⟩ = some (.int .i64 d.cur.sig.index) := by exact b10.cell 8 _ rfl
      have s9 : W10.cell? ⟨f, 9, none⟩ = some (.slice RP d.cur.sig.parts.length rp) := by rw [← HRC.out.2.1]; exact b10.cell 9 _ rfl
      have s10 : W10.cell? ⟨f, 10, none⟩ = some (.slice RQ d.cur.sig.path.length rq) := by rw [← HRC.out.2.2]; exact b10.cell 10 _ rfl
      have s12 : W10.cell? ⟨f, 12, none⟩ = some (.slice A7 (d.kept.length + 1) c7) := by exact b10.cell 12 _ rfl
      have H10 := Lib.hid (And.intro b10 hc10)
      clear b10 hc10
      refine hK.out _ _ ⟨s6, s7, s8, s9, s10, s12⟩ (fun hHeld16 => ?_)
      clear hK K
      try simp only [Act.put, List.setIfInBounds_toArray, List.set_cons_zero, List.set_cons_succ]
      refine wpAnyH_done (by kernel_rfl) ?_ _
      go_wp2
      go_end0
      refine ⟨rfl, ?_, ?_⟩
      · have hz4 := H4.out.2.size
        have hz8 := H8.out.2.1.size
        have hz10 := H10.out.2.size
        have hz7 := H7.out.2.size
        have hz46 : W4.heap.size ≤ W10.heap.size := by omega
        have hw8 := H8.out.2.2.wide (Z' := Wide Z w W10) (fun x hx => by
          rcases hx with hx | hx
          · exact .inl hx
          · exact .inr ⟨by have : w1.heap.size ≤ x := hx.1; omega, by have : x < W4.heap.size := hx.2; omega⟩)
        have hsho := Sho.own H8.out.1
        have hkd : keepD d k g = { keep0 d k g with done := d.cur, enough := d.kept ++ [g] } := by unfold keepD; rw [if_pos hq]
        rw [hkd]
        have hfin := hw8.finish (ev := .slice A8 (d.kept.length + 1) c8) (W2 := W10) (by
            have e : (d.kept ++ [g]).length = d.kept.length + 1 := by simp
            show Sho W8 _ (d.kept ++ [g]).length 4 _
            rw [e]; exact hsho) (fun _ x hx => by
            have h1 : W7.heap.size ≤ x ∧ x < W8.heap.size := World.ownsRow.lt H8.out.1 x hx
            exact ⟨.inr ⟨by omega, by omega⟩, fun e => by have := H7.out.1.lt x e; omega⟩) H10.out.2 (by
            have h := H10.out.1
            simp only [fdCells, List.set_cons_succ, List.set_cons_zero, HRC.out.1, HRC.out.2.1, HRC.out.2.2] at h ⊢
            exact h)
        exact ⟨_, _, _, hfin⟩
      · exact (H7.out.2.trans (Chg.of_below (S := fun _ => False) H8.out.2.1) (fun _ _ h => h.elim)).trans H10.out.2 (fun x _ e => HOK.out.mz x (.inl e))
    · have hkd : keepD d k g = keep0 d k g := by unfold keepD; rw [if_neg hq]
      have HKD := Lib.hid hkd
      have hq2 : ¬ d.p.quorum ≤ (d.kept.length : Int) + 1 := by omega
      have hdr := (Below.refl W6.heap.size W6).drew
      have H7 := Lib.hid (And.intro (H6.out.1.below hdr) (H6.out.2.trans (Chg.of_below (S := fun _ => False) hdr) (fun _ _ h => h.elim)))
      have hz67 := hdr.size
      clear hkd hdr hHeld n12 n2
      generalize W6.drew = W7 at *
      go_wp2
      go_end0
      refine ⟨rfl, ?_, H7.out.2⟩
      rw [HKD.out]
      have hz4 := H4.out.2.size
      have hz7 := H7.out.2.size
      exact ⟨_, _, _, H7.out.1.wide (fun x hx => by
        rcases hx with hx | hx
        · exact .inl hx
        · exact .inr ⟨by have : w1.heap.size ≤ x := hx.1; omega, by have : x < W4.heap.size := hx.2; omega⟩)⟩
end Go.Proofs.YtlkgeifmppadmaaGreat
namespace Go.Proofs.YtlkgeifmppadmaaGreat
open Go.RowKit
set_option linter.unusedVariables false
set_option maxRecDepth 100000
set_option linter.unusedSimpArgs false

/-- The slice v shows the ints xs. -/
def Ints (w : World) (v : Value) (xs : List Int) : Prop :=
  (∃ A c, v = .slice A 0 c ∧ xs = []) ∨ ∃ g o c, v = .slice (some ⟨g, o, none⟩) xs.length c ∧ g < w.heap.size ∧ ∀ k (h : k < xs.length), w.cell? ⟨g, o + k, none⟩ = some (.int .i64 xs[k])
theorem Ints.below {A B : World} (h : Below A.heap.size A B) {v : Value} {xs : List Int} : Ints A v xs → Ints B v xs
  | .inl e => .inl e
  | .inr ⟨g, o, c, e, hg, hc⟩ => .inr ⟨g, o, c, e, Nat.lt_of_lt_of_le hg h.size, fun k hk => (h.cell (p := ⟨g, o + k, none⟩) hg).trans (hc k hk)⟩
theorem Ints.form {w : World} {v : Value} {xs : List Int} : Ints w v xs → ∃ A c, v = .slice A xs.length c
  | .inl ⟨A, c, e, h⟩ => ⟨A, c, by rw [e, h]; rfl⟩
  | .inr ⟨g, o, c, e, _⟩ => ⟨_, c, e⟩

theorem Ints.new (w : World) (t : TypeId) (xs : List Int) (c : Nat) : Ints (w.alloc (.cells (xs.map (Value.int .i64)).toArray t)) (.slice (some ⟨w.heap.size, 0, none⟩) xs.length c) xs :=
  .inr ⟨_, 0, c, rfl, by simp, fun k hk => (Blk.new w t (xs.map (Value.int .i64))).cell (0 + k) _ (by simp [List.getElem?_eq_getElem hk])⟩
/-- A row of ints of one's own shows them. -/
def Own1 (w : World) (base : Nat) (v : Value) (xs : List Int) : Prop := w.ownsRow base 3 1 v xs.length (xs.map (Value.int .i64))
theorem Own1.ints {w : World} {base : Nat} {v : Value} {xs : List Int} (h : Own1 w base v xs) : Ints w v xs := by
  rcases h.2 with ⟨rfl, h0⟩ | ⟨g, cap, cur, rfl, hb, hh, hle, hm, hs, ht⟩
  · exact .inl ⟨_, _, rfl, List.length_eq_zero_iff.1 h0⟩
  · refine .inr ⟨g, 0, cap, rfl, (Array.getElem?_eq_some_iff.1 hh).1, fun k hk => ?_⟩
    have h1 : (cur.toList.take (xs.length * 1))[k]? = (xs.map (Value.int .i64))[k]? := by rw [ht]
    rw [List.getElem?_take_of_lt (by omega), List.getElem?_map, List.getElem?_eq_getElem hk] at h1
    have h2 : cur[k]? = some (Value.int .i64 xs[k]) := by simpa using h1
    simp only [World.cell?, hh]
    simpa using h2
theorem Own1.ge {w : World} {base : Nat} {v : Value} {xs : List Int} (h : Own1 w base v xs) {j : Nat} (e : v.ownBlock = some j) : base ≤ j := by
  rcases h.2 with ⟨rfl, _⟩ | ⟨g, cap, cur, rfl, hb, _⟩
  · simp [Value.ownBlock] at e
  · have : g = j := by simpa [Value.ownBlock] using e
    omega
theorem info_int : (Tryz.prog.info? 3).map (fun i => (i.zero, i.size, i.bytes)) = some (some (.int .i64 0), 1, 8) := by kernel_rfl

def withinZ (n lo hi : Int) : Int := if lo ≤ n ∧ n ≤ hi then n else lo + (if n.tmod (hi - lo + 1) < 0 then n.tmod (hi - lo + 1) + hi - lo + 1 else n.tmod (hi - lo + 1))
theorem withinZ_ge (n lo hi : Int) (h : lo ≤ hi) : lo ≤ withinZ n lo hi ∧ withinZ n lo hi ≤ hi := by
  unfold withinZ
  have h1 : (n.tmod (hi - lo + 1)).natAbs < (hi - lo + 1).natAbs := by
    rw [Int.natAbs_tmod]
    exact Nat.mod_lt _ (by omega)
  split
  · assumption
  · split <;> omega
set_option maxHeartbeats 1000000 in
theorem within_any (n lo hi : Int) (h0 : -1000000000000 ≤ lo) (h1 : lo ≤ hi) (h2 : hi ≤ 1000000000000) (w : World) :
    Calls Tryz.prog 6 #[.int .i64 n, .int .i64 lo, .int .i64 hi] w fun e w' => e = .returned (.int .i64 (withinZ n lo hi)) ∧ w = w' := by
  have hm : (n.tmod (hi - lo + 1)).natAbs < (hi - lo + 1).natAbs := by
    rw [Int.natAbs_tmod]
    exact Nat.mod_lt _ (by omega)
  have e1 : wrap64 (hi - lo) = hi - lo := by unfold wrap64; omega
  have e2 : wrap64 (hi - lo + 1) = hi - lo + 1 := by unfold wrap64; omega
  have e3 : wrap64 (n.tmod (hi - lo + 1)) = n.tmod (hi - lo + 1) := by unfold wrap64; omega
  have e4 : ((hi - lo + 1 : Int) == 0) = false := by simp; omega
  go_enter Tryz.func6, Tryz.ntmps6
  unfold withinZ
  by_cases c1 : lo ≤ n
  · by_cases c2 : n ≤ hi
    · rw [if_pos ⟨c1, c2⟩]
      go_wp2
      go_ret
      exact ⟨rfl, rfl⟩
    · rw [if_neg (fun h => c2 h.2)]
      go_wp2
      all_goals go_ret
      all_goals exact ⟨rfl, rfl⟩
  · rw [if_neg (fun h => c1 h.1)]
    go_wp2
    all_goals go_ret
    all_goals exact ⟨rfl, rfl⟩
/-- The slice at A shows the ints xs: where there is one, A is a plain address. -/
def ArgInts (w : World) (A : Option Addr) (xs : List Int) : Prop := ∀ k (h : k < xs.length), ∃ g o, A = some ⟨g, o, none⟩ ∧ g < w.heap.size ∧ w.cell? ⟨g, o + k, none⟩ = some (.int .i64 xs[k])
end Go.Proofs.YtlkgeifmppadmaaGreat
namespace Go.Proofs.YtlkgeifmppadmaaGreat
open Go.RowKit
set_option linter.unusedVariables false
set_option linter.unusedSimpArgs false

/-- An owner whose blocks meet S. -/
def OwnerS (S : Nat → Prop) (w : World) (b : Nat) (seed : List UInt8) : Prop :=
  ∃ v vl us, Blk w b 93 [v, vl] ∧ S b ∧ Bys w v seed ∧ (0 < seed.length → ∀ g, v.ownBlock = some g → S g) ∧ Sho w vl 5 1 us ∧ (∀ g, vl.ownBlock = some g → S g) ∧ ∀ h, h ≤ 4 → ∃ u, us[h]? = some u ∧ RwsF S w u (levelS seed h)
theorem OwnerS.at' {S : Nat → Prop} {w : World} {b : Nat} {seed : List UInt8} (h : OwnerS S w b seed) : OwnerAt w b seed := by
  obtain ⟨v, vl, us, h1, -, h2, -, h3, -, h4⟩ := h
  exact ⟨v, vl, us, h1, h2, h3, fun k hk => by obtain ⟨u, e, hu⟩ := h4 k hk; exact ⟨u, e, hu.rws⟩⟩
theorem OwnerS.chg {S T : Nat → Prop} {w w1 : World} {b : Nat} {seed : List UInt8} (h : OwnerS S w b seed) (hc : Chg w w1 T) (hS : ∀ g, S g → ¬ T g) : OwnerS S w1 b seed := by
  obtain ⟨v, vl, us, h1, h2, h3, h4, h5, h6, h7⟩ := h
  exact ⟨v, vl, us, h1.chg hc (hS b h2), h2, Sho.chgF h3 h4 hc hS, h4, h5.chg hc (fun g hg => hS g (h6 g hg)), h6, fun k hk => by obtain ⟨u, e, hu⟩ := h7 k hk; exact ⟨u, e, hu.chg hc hS⟩⟩
theorem OwnerS.mono {S T : Nat → Prop} {w : World} {b : Nat} {seed : List UInt8} (h : OwnerS S w b seed) (hS : ∀ g, S g → T g) : OwnerS T w b seed := by
  obtain ⟨v, vl, us, h1, h2, h3, h4, h5, h6, h7⟩ := h
  exact ⟨v, vl, us, h1, hS b h2, h3, fun h0 g hg => hS g (h4 h0 g hg), h5, fun g hg => hS g (h6 g hg), fun k hk => by obtain ⟨u, e, hu⟩ := h7 k hk; exact ⟨u, e, hu.mono hS⟩⟩
set_option maxRecDepth 100000 in
set_option maxHeartbeats 4000000 in
theorem rnew_s (S : Nat → Prop) (v : Value) (seed : List UInt8) (hsm : seed.length ≤ 1000000000) (w : World) (hx : Bys w v seed) (hxS : 0 < seed.length → ∀ g, v.ownBlock = some g → S g) :
    Calls Tryz.prog 18 #[v] w fun e w' => e = .returned (.pointer (some ⟨w.heap.size, 0, none⟩)) ∧ OwnerS (fun g => S g ∨ (w.heap.size ≤ g ∧ g < w'.heap.size)) w' w.heap.size seed ∧ Below w.heap.size w w' := by
  obtain ⟨i0, hi0, hz0, hz1, hz2⟩ := info_parts info_bytes
  obtain ⟨j0, hj0, hjz0, hjz1, hjz2⟩ := info_parts info_rows
  obtain ⟨A, c, rfl⟩ := hx.form
  have HX := Lib.hid hx
  have HXS := Lib.hid hxS
  clear hx hxS
  go_enter Tryz.func18, Tryz.ntmps18
  go_wp2
  go_loopw [4, 5] (fun v4 v5 wr => ∃ i : Nat, v5 = .int .i64 i ∧ i ≤ 16 ∧ Hid (Below w.heap.size w wr ∧ Blk wr w.heap.size 93 [.slice A seed.length c, .slice none 0 0] ∧ OwnR wr (w.heap.size + 1) v4 (pubs seed i))) (fun _ v _ => 16 - (intOf v).toNat)
  case atStart => exact ⟨0, rfl, by decide, Lib.hid ⟨(Below.refl _ _).alloc (Nat.le_refl _) _, Blk.new w 93 [.slice A seed.length c, .slice none 0 0], OwnR.nil _ _⟩⟩
  case round =>
    obtain ⟨i, rfl, hi, HI⟩ := hrel
    have hszB : w.heap.size + 1 ≤ wr.heap.size := HI.out.2.1.lt
    by_cases hlt : i < 16
    · have HP := Lib.hid (fun (wz : World) (hz : Bys wz (.slice A seed.length c) seed) => rpublic_any (.slice A seed.length c) seed i (by omega) hsm wz hz)
      have HACC := Lib.hid (pubs_succ seed i)
      have hpl : (pubs seed i).length ≤ 100 := by rw [pubs_length]; omega
      generalize publicS seed (i : Int) = PB at *
      generalize pubs seed i = L at *
      obtain ⟨A4, c4, rfl⟩ := HI.out.2.2.rws.form
      go_wp2_with fail
      refine (HP.out wr (HX.out.below HI.out.1)).mono ?_
      rintro e w2 ⟨v2, rfl, h1, h2⟩
      obtain ⟨A2, c2, rfl⟩ := h1.form
      obtain ⟨us, hu1, hu2⟩ := HI.out.2.2.keep h2
      have H2 := Lib.hid (And.intro h1 (And.intro h2 (And.intro hu1 hu2)))
      have hsz2 := h2.size
      clear h1 h2 hu1 hu2
      go_wp2_with (at_builtin; (refine wpList_append_lies _ rfl (.tmp 15) (.tmp 19) 27 rfl (w.heap.size + 1) 26 i0 (.slice none 0 0) 1 24 Tryz.underlying27 hi0 hz0 hz1 hz2 rfl (by decide) _ L.length us rfl (World.ownsRow.alloc H2.out.2.2.1 _) ⟨w2.heap.size, 0, none⟩ 1 1 [.slice A2 PB.length c2] rfl rfl (World.news_of_block (blk_new _ _)) (by simp [Value.oneCell']) (by decide) (by unfold maxLen; omega) (by omega) (by simp; omega) (w2.heap.size + 1) (by simp) ?_); intro g3 c3 W3 hown3 hgrow3 hlie3 hlt3)
      have HR3 := Lib.hid (retr_push HI.out.2.2 hszB H2.out.2.1 H2.out.1 H2.out.2.2.2 (by have := H2.out.2.2.1.1; omega) hown3 hgrow3 hlie3)
      go_roundw
      case rel => exact ⟨i + 1, by go_num, by omega, Lib.hid ⟨HI.out.1.trans (HR3.out.2.mono (by omega)), HI.out.2.1.chg (chg_belowB HR3.out.2) (by omega), by rw [HACC.out]; exact HR3.out.1⟩⟩
      case measure => simp [intOf]; omega
    · obtain rfl : i = 16 := by omega
      rw [show ((16 : Nat) : Int) = 16 from rfl]
      have hL0 := (levelS_length seed).1
      have hfoot := HI.out.2.2.foot
      obtain ⟨A4, c4, rfl⟩ := HI.out.2.2.rws.form
      have HF := Lib.hid (And.intro HI.out.1 (And.intro HI.out.2.1 (show RwsF (fun g => w.heap.size + 1 ≤ g ∧ g < wr.heap.size) wr _ (levelS seed 0) from hfoot)))
      have HPL := Lib.hid (pubs_length seed 16)
      have q0 := HI.out.2.1.cell 0 _ rfl
      have q1 := HI.out.2.1.cell 1 _ rfl
      have hpe : pubs seed 16 = levelS seed 0 := rfl
      rw [hpe]
      clear hfoot HI hpe
      have HL0 := Lib.hid hL0
      clear hL0
      go_wp2_with (at_builtin; (refine wpList_append_lies _ rfl (.tmp 25) (.tmp 27) 91 rfl (w.heap.size + 1) 27 j0 (.slice none 0 0) 1 24 Tryz.underlying91 hj0 hjz0 hjz1 hjz2 rfl (by decide) _ 0 [] rfl (World.ownsRow_nil _ _ _ _) ⟨wr.heap.size, 0, none⟩ 1 1 [.slice A4 (levelS seed 0).length c4] rfl rfl (World.news_of_block (blk_new _ _)) (by simp [Value.oneCell']) (by decide) (by decide) (by decide) (by simp; omega) (wr.heap.size + 1) (by simp) ?_); intro g3 c3 W3 hown3 hgrow3 hlie3 hlt3; have HK3 := Lib.hid (Blk.grown (Blk.alloc HF.out.2.1 _) hgrow3 (by intro e; cases e)); have r1 := HK3.out.cell 1 _ rfl; have f1 := HK3.out.free 1)
      have hg3 : w.heap.size + 1 ≤ g3 := by rcases hlie3 with h | h; · cases h
                                            · omega
      have hc3 : Chg wr W3 (fun _ => False) := ((Chg.refl wr _).alloc _).trans (Chg.of_grown hgrow3) (fun i _ h => by cases h)
      have hOL : OwnL W3 (w.heap.size + 1) (.slice (some ⟨g3, 0, none⟩) 1 c3) [levelS seed 0] := by
        have := OwnL.push (w := wr) (base := w.heap.size + 1) (v := .slice none 0 0) (Ls := []) (us := []) (fun i h => absurd h (Nat.not_lt_zero _)) rfl (HF.out.2.2.mono (fun g hg => ⟨hg.1, hg.2, by intro e; cases e⟩)) hown3 hgrow3 hlie3
        simpa using this
      have hset : Chg W3 (W3.setCell ⟨w.heap.size, 1, none⟩ (.slice (some ⟨g3, 0, none⟩) 1 c3)) (fun k => k = w.heap.size) := (Chg.refl W3 _).setCell _ _ (fun _ => rfl)
      have HS := Lib.hid (show Below w.heap.size w (W3.setCell ⟨w.heap.size, 1, none⟩ (.slice (some ⟨g3, 0, none⟩) 1 c3)) ∧ (∃ vl, Blk (W3.setCell ⟨w.heap.size, 1, none⟩ (.slice (some ⟨g3, 0, none⟩) 1 c3)) w.heap.size 93 [.slice A seed.length c, vl] ∧ OwnL (W3.setCell ⟨w.heap.size, 1, none⟩ (.slice (some ⟨g3, 0, none⟩) 1 c3)) (w.heap.size + 1) vl ((List.range (0 + 1)).map (levelS seed))) ∧ RwsF (fun g => w.heap.size + 1 ≤ g ∧ g < (W3.setCell ⟨w.heap.size, 1, none⟩ (.slice (some ⟨g3, 0, none⟩) 1 c3)).heap.size) (W3.setCell ⟨w.heap.size, 1, none⟩ (.slice (some ⟨g3, 0, none⟩) 1 c3)) (.slice A4 (levelS seed 0).length c4) (levelS seed 0) from
        ⟨(HF.out.1.trans (hc3.below (by have := HF.out.1.size; omega) (fun k h => h.elim))).trans (hset.below (by have := HF.out.1.size; have := hc3.size; omega) (fun k hk => by omega)), ⟨_, HK3.out.set 1 _ (by simp), hOL.chg hset (fun g h1 h2 e => by omega)⟩, ((HF.out.2.2.chg hc3 (fun g hg h => h)).chg hset (fun g hg e => by omega)).mono (fun g hg => ⟨hg.1, by have := hc3.size; have := hset.size; omega⟩)⟩)
      clear hset hOL hc3 HK3 hown3 hgrow3 hlie3 hlt3 r1 f1 q0 q1 HF hg3
      generalize W3.setCell ⟨w.heap.size, 1, none⟩ (.slice (some ⟨g3, 0, none⟩) 1 c3) = W4 at *
      go_loopw [4] (fun v4 wr => ∃ h : Nat, h ≤ 4 ∧ Hid (Below w.heap.size w wr ∧ (∃ vl, Blk wr w.heap.size 93 [.slice A seed.length c, vl] ∧ OwnL wr (w.heap.size + 1) vl ((List.range (h + 1)).map (levelS seed))) ∧ RwsF (fun g => w.heap.size + 1 ≤ g ∧ g < wr.heap.size) wr v4 (levelS seed h))) (fun v _ => lenV v)
      case atStart => exact ⟨0, by decide, HS⟩
      case round =>
        clear HS hi hlt HPL HL0
        obtain ⟨h, hh, HI⟩ := hrel
        obtain ⟨A4, c4, rfl⟩ := HI.out.2.2.rws.form
        by_cases hlt : h < 4
        · obtain ⟨K, hK, hK1, hK8⟩ := levelS_two seed h hlt
          have HLV : Hid (levelS seed (h + 1) = abN (levelS seed h) K) := Lib.hid (by show abN (levelS seed h) ((levelS seed h).length / 2) = _; rw [hK]; congr 1; omega)
          have HL32 := Lib.hid (levelS_32 seed h)
          have HKK := Lib.hid hK
          have hLl : (levelS seed h).length ≤ 16 ∧ 2 ≤ (levelS seed h).length := by omega
          obtain ⟨hLl1, hLl2⟩ := hLl
          clear hK
          generalize hLe : levelS seed h = L at *
          have HLE := Lib.hid hLe
          clear hLe
          obtain ⟨wo, rfl⟩ : ∃ wo : World, wo = wr := ⟨_, rfl⟩
          have hdl : decide ((1 : Int) < (L.length : Int)) = true := by simp; omega
          go_wp2
          go_loopw [6, 7] (fun v6 v7 wr => ∃ (n : Nat), v7 = .int .i64 (2 * (n : Int)) ∧ n ≤ K ∧ Hid (Below wo.heap.size wo wr ∧ OwnR wr wo.heap.size v6 (abN L n))) (fun _ v _ => 40 - (intOf v).toNat)
          case atStart => exact ⟨0, rfl, Nat.zero_le _, Lib.hid ⟨Below.refl _ _, OwnR.nil _ _⟩⟩
          case round =>
            obtain ⟨n, rfl, hn, HJ⟩ := hrel
            by_cases hltn : n < K
            · have h2n : 2 * n + 1 < L.length := by have := HKK.out; omega
              obtain ⟨gl, ol, u1, rfl, hgl, -, -, hc1, hb1⟩ := HI.out.2.2.rws.at' (2 * n) (by omega)
              obtain ⟨gl', ol', u2, eA, -, -, -, hc2, hb2⟩ := HI.out.2.2.rws.at' (2 * n + 1) h2n
              injection eA with eA
              injection eA with eA1 eA2
              subst eA1 eA2
              obtain ⟨A1, c1, rfl⟩ := hb1.form
              obtain ⟨A2, c2, rfl⟩ := hb2.form
              have p1 := (HJ.out.1.cell (p := ⟨gl, ol + 2 * n, none⟩) hgl).trans hc1
              have p2 := (HJ.out.1.cell (p := ⟨gl, ol + (2 * n + 1), none⟩) hgl).trans hc2
              have hP := HL32.out (2 * n) (by omega)
              have hQ := HL32.out (2 * n + 1) h2n
              have HACC : Hid (abN L (n + 1) = abN L n ++ [tagH 14 [L[2 * n], L[2 * n + 1]]]) := Lib.hid (by
                show abN L n ++ [tagH 14 [L.getD (2 * n) [], L.getD (2 * n + 1) []]] = _
                rw [List.getD_eq_getElem?_getD, List.getD_eq_getElem?_getD, List.getElem?_eq_getElem h2n, List.getElem?_eq_getElem (show 2 * n < L.length by omega)]; rfl)
              have HBB := Lib.hid (And.intro (hb1.below HJ.out.1) (hb2.below HJ.out.1))
              clear hc1 hc2 hb1 hb2
              generalize L[2 * n] = P at *
              generalize L[2 * n + 1] = Q at *
              have HPQ := Lib.hid (And.intro hP hQ)
              clear hP hQ
              have hal : (abN L n).length ≤ 100 := by rw [abN_length]; omega
              obtain ⟨A6, c6, rfl⟩ := HJ.out.2.rws.form
              generalize abN L n = R at *
              generalize hT : tagH 14 [P, Q] = TG at *
              have HT := Lib.hid hT
              clear hT
              have hsz := HJ.out.1.size
              have hglw : gl < wr.heap.size := Nat.lt_of_lt_of_le hgl hsz
              have y1 : (2 : Int) * (n : Int) + 1 < (L.length : Int) := by omega
              have y0 : (2 : Int) * (n : Int) < (L.length : Int) := by omega
              have y2 : (0 : Int) ≤ 2 * (n : Int) := by omega
              have y3 : (0 : Int) ≤ 2 * (n : Int) + 1 := by omega
              have ew : IntKind.i64.wrap (2 * (n : Int) + 1) = 2 * (n : Int) + 1 := IntWalk.i64_in _ (by omega)
              have et : (2 * (n : Int) + 1).toNat = 2 * n + 1 := by omega
              have et0 : (2 * (n : Int)).toNat = 2 * n := by omega
              go_wp2
              go_region_held3 (fun w' => w'.cell? ⟨gl, ol + 2 * n, none⟩ = some (.slice A1 P.length c1) ∧ w'.cell? ⟨gl, ol + (2 * n + 1), none⟩ = some (.slice A2 Q.length c2))
                (first
                  | go_keep
                  | exact ⟨s1, s2⟩
                  | exact ⟨t1, t2⟩)
                (first
                  | (go_simp; go_at_call 44; refine (rtag_any 14 14 rfl _ [P, Q] (by have := HPQ.out; simp; omega) (by simp) _ (new2 (w := wr.drew) 26 (b := wr.heap.size) rfl HBB.out.1 HBB.out.2)).mono ?_; rintro e w5 ⟨v5, rfl, h5, h6⟩; rw [HT.out] at h5; obtain ⟨A5, c5, rfl⟩ := h5.form; have hbw : Below wr.heap.size wr w5 := ((Below.refl wr.heap.size wr).drew.alloc (Nat.le_refl _) (.cells #[.slice A1 P.length c1, .slice A2 Q.length c2] 26)).trans (h6.mono (by simp)); obtain ⟨us, hu1, hu2⟩ := HJ.out.2.keep hbw; have H5 := Lib.hid (And.intro (own_mono' h5 (show wr.heap.size ≤ _ by simp)) (And.intro hbw (And.intro hu1 hu2))); have hsz5 := hbw.size; have s1 := (hbw.cell (p := ⟨gl, ol + 2 * n, none⟩) hglw).trans p1; have s2 := (hbw.cell (p := ⟨gl, ol + (2 * n + 1), none⟩) hglw).trans p2; clear h5 h6 hbw hu1 hu2)
                  | (refine step_append_lies _ (by rfl) (.tmp 40) (.tmp 52) 27 (by rfl) wo.heap.size 26 i0 (.slice none 0 0) 1 24 Tryz.underlying27 hi0 hz0 hz1 hz2 rfl (by omega) _ R.length us (by rfl) (World.ownsRow.alloc H5.out.2.2.1 _) ⟨w5.heap.size, 0, none⟩ 1 1 [.slice A5 TG.length c5] (by rfl) (by rfl) (World.news_of_block (blk_new _ _)) (by simp [Value.oneCell']) (by omega) (by unfold maxLen; omega) (by omega) (by simp; omega) (w5.heap.size + 1) (by simp) ?_; intro g7 c7 W7 hown7 hgrow7 hlie7 hlt7; have HR7 := Lib.hid (retr_push HJ.out.2 hsz H5.out.2.1 H5.out.1 H5.out.2.2.2 (by have := H5.out.2.2.1.1; omega) hown7 hgrow7 hlie7); have t1 : W7.cell? ⟨gl, ol + 2 * n, none⟩ = some (.slice A1 P.length c1) := (HR7.out.2.cell (p := ⟨gl, ol + 2 * n, none⟩) hgl).trans p1; have t2 : W7.cell? ⟨gl, ol + (2 * n + 1), none⟩ = some (.slice A2 Q.length c2) := (HR7.out.2.cell (p := ⟨gl, ol + (2 * n + 1), none⟩) hgl).trans p2; clear hown7 hgrow7 hlie7 hlt7))
              go_wp2
              go_roundw
              case rel => exact ⟨n + 1, by go_num, by omega, Lib.hid ⟨HJ.out.1.trans HR7.out.2, by rw [HACC.out]; exact HR7.out.1⟩⟩
              case measure => simp [intOf]; omega
            · obtain rfl : n = K := by omega
              have y9 : (L.length : Int) ≤ 2 * (n : Int) := by have := HKK.out; omega
              obtain ⟨vl, hbo, hol⟩ := HI.out.2.1
              have hc7 : Chg wo wr (fun _ => False) := Chg.of_below HJ.out.1
              obtain ⟨A6, c6, rfl⟩ := HJ.out.2.rws.form
              have HVB : Hid (∀ k, vl.ownBlock = some k → k < wo.heap.size) := Lib.hid (fun k e => by obtain ⟨us0, k1, _⟩ := hol; exact (World.ownsRow.lt k1 k e).2)
              obtain ⟨us, hu1, hu2⟩ := hol.chg hc7 (fun _ _ _ h => h)
              have hb7 := hbo.chg hc7 (fun h => h)
              have q0 := hb7.cell 0 _ rfl
              have q1 := hb7.cell 1 _ rfl
              have hsw := HJ.out.1.size
              have hbw := HI.out.1.size
              have hlr : ((List.range (h + 1)).map (levelS seed)).length ≤ 5 := by simp; omega
              have HBO := Lib.hid (And.intro hb7 (And.intro hu1 hu2))
              have HUP := Lib.hid (HJ.out.2.foot)
              have HBW := Lib.hid (HI.out.1.trans (HJ.out.1.mono hbw))
              have hwb : w.heap.size + 1 ≤ wo.heap.size := hbo.lt
              clear hb7 hu1 hu2 hol hbo hc7
              rw [← HLV.out] at HUP
              have hlv : (levelS seed (h + 1)).length = (abN L n).length := by rw [HLV.out]
              rw [← hlv]
              have HLVV := Lib.hid hlv
              clear hlv
              generalize hLS : (List.range (h + 1)).map (levelS seed) = LS at *
              have HLS := Lib.hid hLS
              clear hLS
              have hvf : vl.ownBlock = none ∨ vl.ownBlock ≠ none := by by_cases e : vl.ownBlock = none <;> simp [e]
              obtain ⟨A1, c1, rfl⟩ := (Sho.own HBO.out.2.1).form
              go_wp2_with (at_builtin; (refine wpList_append_lies _ rfl (.tmp 59) (.tmp 61) 91 rfl (w.heap.size + 1) 27 j0 (.slice none 0 0) 1 24 Tryz.underlying91 hj0 hjz0 hjz1 hjz2 rfl (by decide) _ LS.length us rfl (World.ownsRow.alloc HBO.out.2.1 _) ⟨wr.heap.size, 0, none⟩ 1 1 [.slice A6 (levelS seed (h + 1)).length c6] rfl rfl (World.news_of_block (blk_new _ _)) (by simp [Value.oneCell']) (by decide) (by unfold maxLen; omega) (by omega) (by simp; omega) (wr.heap.size + 1) (by simp) ?_); intro g8 c8 W8 hown8 hgrow8 hlie8 hlt8; have HK8 := Lib.hid (Blk.grown (Blk.alloc HBO.out.1 _) hgrow8 (fun e => by have := (World.ownsRow.lt HBO.out.2.1 w.heap.size e.symm).1; omega)); have r1 := HK8.out.cell 1 _ rfl; have f1 := HK8.out.free 1)
              have hg8 : w.heap.size + 1 ≤ g8 := by
                rcases hlie8 with e | e
                · exact (World.ownsRow.lt HBO.out.2.1 g8 e).1
                · omega
              have hc8 : Chg wr W8 (fun k => (Value.slice A1 LS.length c1).ownBlock = some k) := ((Chg.refl wr _).alloc _).trans (Chg.of_grown hgrow8) (fun i _ h => h.symm)
              have hOL8 : OwnL W8 (w.heap.size + 1) (.slice (some ⟨g8, 0, none⟩) (LS.length + 1) c8) (LS ++ [levelS seed (h + 1)]) :=
                OwnL.push (w := wr) HBO.out.2.2 (by have := HBO.out.2.1.1; omega) (HUP.out.mono (fun g hg => ⟨by omega, hg.2, fun e => by have := HVB.out g e; omega⟩)) hown8 hgrow8 hlie8
              have hset : Chg W8 (W8.setCell ⟨w.heap.size, 1, none⟩ (.slice (some ⟨g8, 0, none⟩) (LS.length + 1) c8)) (fun k => k = w.heap.size) := (Chg.refl W8 _).setCell _ _ (fun _ => rfl)
              have hF8 : RwsF (fun g => w.heap.size + 1 ≤ g ∧ g < (W8.setCell ⟨w.heap.size, 1, none⟩ (.slice (some ⟨g8, 0, none⟩) (LS.length + 1) c8)).heap.size) (W8.setCell ⟨w.heap.size, 1, none⟩ (.slice (some ⟨g8, 0, none⟩) (LS.length + 1) c8)) (.slice A6 (levelS seed (h + 1)).length c6) (levelS seed (h + 1)) :=
                ((HUP.out.chg hc8 (fun g hg e => by have := HVB.out g e; omega)).chg hset (fun g hg e => by omega)).mono (fun g hg => ⟨by omega, by have := hc8.size; have := hset.size; omega⟩)
              go_roundw
              case rel => exact ⟨h + 1, by omega, Lib.hid ⟨(HBW.out.trans (hc8.below (by omega) (fun k hk => by have := (World.ownsRow.lt HBO.out.2.1 k hk).1; omega))).trans (hset.below (by have := hc8.size; omega) (fun k hk => by omega)), ⟨_, HK8.out.set 1 _ (by simp), by
                have e : (List.range (h + 1 + 1)).map (levelS seed) = LS ++ [levelS seed (h + 1)] := by rw [List.range_succ, List.map_append, HLS.out]; rfl
                rw [e]
                exact hOL8.chg hset (fun g k1 k2 k3 => by omega)⟩, hF8⟩⟩
              case measure => simp only [lenV]; have h1 := HLVV.out; rw [abN_length] at h1; have h2 := HKK.out; omega
        · obtain rfl : h = 4 := by omega
          have hl1 := (levelS_length seed).2.2.2.2
          have hd1 : ¬ (1 : Int) < ((levelS seed 4).length : Int) := by omega
          have HL1 := Lib.hid hl1
          clear hl1
          have HOW : Hid (OwnerS (fun g => S g ∨ (w.heap.size ≤ g ∧ g < wr.heap.size)) wr w.heap.size seed) := Lib.hid (by
            obtain ⟨vl, k1, us, k2, k3⟩ := HI.out.2.1
            refine ⟨_, vl, us, k1, .inr ⟨Nat.le_refl _, k1.lt⟩, HX.out.below HI.out.1, fun h0 g hg => .inl (HXS.out h0 g hg), Sho.own k2, fun g hg => .inr ⟨by have := (World.ownsRow.lt k2 g hg).1; omega, (World.ownsRow.lt k2 g hg).2⟩, fun q hq => ?_⟩
            obtain ⟨u, e, hu⟩ := k3 q (by simp; omega)
            exact ⟨u, e, by have := hu.mono (T := fun g => S g ∨ (w.heap.size ≤ g ∧ g < wr.heap.size)) (fun g hg => .inr ⟨by have := hg.1; omega, hg.2.1⟩); simpa using this⟩)
          go_wp2
          go_ret
          exact ⟨rfl, HOW.out, HI.out.1⟩
end Go.Proofs.YtlkgeifmppadmaaGreat
