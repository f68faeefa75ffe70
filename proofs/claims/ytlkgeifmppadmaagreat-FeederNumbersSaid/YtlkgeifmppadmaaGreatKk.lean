/- The feeder's keep. The feeder's Reply, where a cosignature is kept. A feeder and the law's model: their plans as lists. No walk. Conditions: as each theorem states them. -/
import Derived.Test.YtlkgeifmppadmaaGreatKh
import Derived.Test.YtlkgeifmppadmaaGreatKj
namespace Go.Proofs.YtlkgeifmppadmaaGreat
open Go.RowKit
set_option linter.unusedVariables false
set_option linter.unusedSimpArgs false

def keep0 (d : FdD) (k : Nat) (g : CgD) : FdD := { d with kept := d.kept ++ [g], l := d.l.set k ⟨d.cur.ck.num, (wAt d.l k).tries, true⟩, m := keepW (k : Int) d.m }
def keepD (d : FdD) (k : Nat) (g : CgD) : FdD := if d.p.quorum ≤ ((d.kept.length + 1 : Nat) : Int) then { keep0 d k g with done := d.cur, enough := d.kept ++ [g] } else keep0 d k g
theorem cellsW_kept (L : List WtD) (k : Nat) (z : Int) (h : k < L.length) : cellsW (L.set k ⟨z, (wAt L k).tries, true⟩) = ((cellsW L).set (k * 3 + 2) (.bool true)).set (k * 3) (.int .i64 z) := by
 rw [cellsW_set L k _ h, wAt_eq L k h]
 obtain ⟨h0, h1, h2⟩ := cellsW_at L k h
 obtain ⟨hl1, e1⟩ := List.getElem?_eq_some_iff.1 h1
 apply List.ext_getElem?
 intro j
 simp only [List.getElem?_set, List.length_set]
 by_cases j2 : k * 3 + 2 = j
 ·subst j2; simp
 ·by_cases j1 : k * 3 + 1 = j
  ·subst j1; simp [hl1, e1]
  ·simp [j1, j2]
set_option maxRecDepth 100000 in
set_option maxHeartbeats 8000000 in
theorem keep_any (Z : Nat → Prop) (f : Nat) (d : FdD) (r : FdR) (us es : List Value) (v : Value) (g : CgD) (k : Nat) (hs : SmallSig g.sig) (hk : k < d.l.length) (hkl : d.kept.length ≤ 1000) (hm : d.m.length ≤ 1000000) (w : World) (hok : FdOk Z w f d r us es) (hv : CgV w v g) (hZ : ∀ g, Z g → g < w.heap.size) :
  Calls Tryz.prog 31 #[.pointer (some ⟨f, 0, none⟩), .int .i64 k, v] w fun e w' => e = .returned (.tuple #[]) ∧ FdAt (Wide Z w w') w' f (keepD d k g) ∧ Chg w w' Z := by
 obtain ⟨i0, hi0, hz0, hz1, hz2⟩ := info_parts info_cosig
 have HZ := Lib.hid hZ
 have HCP := Lib.hid (fun (wz : World) (v : Value) (hz : CgV wz v g) => cgcopy_any v g hs wz hz)
 obtain ⟨p1, q1, rfl, h1, h2⟩ := hv
 obtain ⟨P, cp, rfl⟩ := h1.form
 obtain ⟨Q, cq, rfl⟩ := h2.form
 obtain ⟨KA, kc, hkv⟩ := (Sho.own hok.kp).form
 have HKV := Lib.hid hkv
 have HX := Lib.hid (And.intro h1 h2)
 have hb0 := (Below.refl w.heap.size w).alloc (Nat.le_refl _) (.cells #[.int .i64 g.wit, .int .i64 g.sig.index, .slice P g.sig.parts.length cp, .slice Q g.sig.path.length cq] 47)
 have hk0 := Blk.new w 47 [.int .i64 g.wit, .int .i64 g.sig.index, .slice P g.sig.parts.length cp, .slice Q g.sig.path.length cq]
 have hok1 := hok.below hb0
 have H0 := Lib.hid (And.intro hk0 (And.intro hb0 hok1))
 have f5 := cell5 hok1.blk
 have hfl := hok1.blk.lt
 have hfw := hok.blk.lt
 have hkI : (k : Int) < (d.l.length : Int) := by omega
 have HOK := Lib.hid hok
 clear h1 h2 hs hZ hkv hok hok1 hb0 hk0
 go_enter Tryz.func31, Tryz.ntmps31
 go_wp2
 refine code_at (fun w1 => Blk w1 w.heap.size 47 [.int .i64 g.wit, .int .i64 g.sig.index, .slice P g.sig.parts.length cp, .slice Q g.sig.path.length cq] ∧ Below w.heap.size w w1 ∧ FdOk Z w1 f d r us es) H0.out ?_
 rintro w1 ⟨k0, kb, kd⟩
 refine wp_region_any (by kernel_rfl) ?_
 change wpAny _ _ _ _ _ _ _ w1.drew
 have hd := (Below.refl w1.heap.size w1).drew
 replace k0 := k0.below hd
 replace kd := kd.below hd
 replace kb := kb.trans (hd.mono kb.size)
 clear hd
 generalize w1.drew = w1 at *
 have c0 := k0.cell 0 _ rfl
 have c1 := k0.cell 1 _ rfl
 have c2 := k0.cell 2 _ rfl
 have c3 := k0.cell 3 _ rfl
 have cf : w1.cell? ⟨f, 12, none⟩ = some (.slice KA d.kept.length kc) := by rw [← HKV.out]; exact kd.blk.cell 12 _ rfl
 have hfl1 := kd.blk.lt
 have hkl1 := k0.lt
 have H1 := Lib.hid (And.intro k0 (And.intro kb kd))
 clear k0 kb kd f5 hfl
 refine ay 0 13 rfl rfl ?_; simp only [sa, sb, sc]
 refine ay 1 14 rfl rfl ?_; simp only [sa, sb, sc]
 refine ay 2 15 rfl rfl ?_; simp only [sa, sb, sc]
 refine ay 3 16 rfl rfl ?_; simp only [sa, sb, sc]
 refine wpAny_ready (rs := [4, 5]) (by kernel_rfl) (by simp) ?_
 refine AllReady.cons rfl (fun K hK => ?w2_4) (AllReady.cons rfl (fun K hK => ?w2_5) AllReady.nil)
 case' w2_5 =>
  go_simp
  refine hK _ _ ?_
  clear hK K; try simp only [Act.put, sa, sb, sc]
  refine wpAny_ready (rs := [4, 6]) (by kernel_rfl) (by simp) ?_
  refine AllReady.cons rfl (fun K hK => ?w2_5_4) (AllReady.cons rfl (fun K hK => ?w2_5_6) AllReady.nil)
  case' w2_5_6 =>
   go_simp
   go_at_call 33
   refine (HCP.out w1 _ ⟨_, _, rfl, HX.out.1.below H1.out.2.1, HX.out.2.below H1.out.2.1⟩).mono ?_
   rintro e w2 ⟨v2, rfl, ⟨p2, q2, rfl, h2, h3⟩, h4⟩
   obtain ⟨A5, c5, rfl⟩ := h2.rws.form
   obtain ⟨A6, c6, rfl⟩ := h3.rws.form
   have kA := H1.out.1.below h4
   have kF := H1.out.2.2.below h4
   have j0 := kA.cell 0 _ rfl
   have j1 := kA.cell 1 _ rfl
   have j2 := kA.cell 2 _ rfl
   have j3 := kA.cell 3 _ rfl
   have jf : w2.cell? ⟨f, 12, none⟩ = some (.slice KA d.kept.length kc) := by rw [← HKV.out]; exact kF.blk.cell 12 _ rfl
   have hfl2 := kF.blk.lt
   have hbl2 := kA.lt
   have H2 := Lib.hid (And.intro (show RwsF (fun x => w1.heap.size ≤ x ∧ x < w2.heap.size) w2 (.slice A5 g.sig.parts.length c5) g.sig.parts from h2) (And.intro (show RwsF (fun x => w1.heap.size ≤ x ∧ x < w2.heap.size) w2 (.slice A6 g.sig.path.length c6) g.sig.path from h3) (And.intro h4 (And.intro kA kF))))
   clear h2 h3 h4 kA kF
   try dsimp only
   refine hK _ _ ?_
   clear hK K; try simp only [Act.put, sa, sb, sc]
   refine wpAny_ready (rs := [4, 7]) (by kernel_rfl) (by simp) ?_
   refine AllReady.cons rfl (fun K hK => ?w2_5_6_4) (AllReady.cons rfl (fun K hK => ?w2_5_6_7) AllReady.nil)
   case' w2_5_6_7 =>
    go_simp
    have hal := (Below.refl w2.heap.size w2).alloc (Nat.le_refl _) (.cells #[.int .i64 g.wit, .int .i64 g.sig.index, .slice A5 g.sig.parts.length c5, .slice A6 g.sig.path.length c6] 47)
    have i0' := (hal.cell (p := ⟨w.heap.size, 0, none⟩) hbl2).trans j0
    have i1' := (hal.cell (p := ⟨w.heap.size, 1, none⟩) hbl2).trans j1
    have i2' := (hal.cell (p := ⟨w.heap.size, 2, none⟩) hbl2).trans j2
    have i3' := (hal.cell (p := ⟨w.heap.size, 3, none⟩) hbl2).trans j3
    have if' := (hal.cell (p := ⟨f, 12, none⟩) hfl2).trans jf
    refine hK _ _ ?_
    clear hK K; try simp only [Act.put, sa, sb, sc]
    refine wpAny_ready (rs := [4]) (by kernel_rfl) (by simp) ?_
    refine AllReady.cons rfl (fun K hK => ?_) AllReady.nil
    go_simp
    refine hK _ _ ?_
    clear hK K; try simp only [Act.put, sa, sb, sc]
    refine wpAny_ready (rs := [8]) (by kernel_rfl) (by simp) ?_
    refine AllReady.cons rfl (fun K hK => ?_) AllReady.nil
    skip
    refine step_append_lie rfl (.tmp 17) (.tmp 20) 49 rfl r.kb 47 i0 (.agg #[.int .i64 0, .int .i64 0, .slice none 0 0, .slice none 0 0]) 4 64 Tryz.underlying49 hi0 hz0 hz1 hz2 rfl (by decide) _ d.kept.length us rfl (by rw [← HKV.out]; exact World.ownsRow.alloc H2.out.2.2.2.2.kp _) _ 1 [.int .i64 g.wit, .int .i64 g.sig.index, .slice A5 g.sig.parts.length c5, .slice A6 g.sig.path.length c6] rfl ((Sho.new w2 47 [.int .i64 g.wit, .int .i64 g.sig.index, .slice A5 g.sig.parts.length c5, .slice A6 g.sig.path.length c6] 1 4 1 rfl (Nat.le_refl _) (by decide)).news (fun u hu => by simp at hu; rcases hu with rfl | rfl | rfl | rfl <;> rfl)) (by unfold maxLen; omega) (by omega) (by have := H2.out.2.2.2.2.kbl; simp; omega) ?_
    intro v3 W3 hown3 hgrow3 hlie3
    obtain ⟨A7, c7, rfl⟩ := (Sho.own hown3).form
    have hcA : Chg w2 W3 (fun x => r.kv.ownBlock = some x) := by rw [HKV.out]; exact ((Chg.refl w2 _).alloc _).trans (Chg.of_grown hgrow3) (fun i _ h => h.symm)
    have hc1 : Chg w1 W3 (fun x => r.kv.ownBlock = some x) := ((Chg.refl w1 _).trans (Chg.of_below (S := fun _ => False) H2.out.2.2.1) (fun _ _ h => h.elim)).trans hcA (fun _ _ h => h)
    have b3 := H2.out.2.2.2.2.blk.chg hcA HOK.out.n2
    have hz1 := H2.out.2.2.1.size
    have hzA := hcA.size
    have hkw : ∀ x, r.kv.ownBlock = some x → x < w1.heap.size := fun x hx => (World.ownsRow.lt H1.out.2.2.kp x hx).2
    have hkn : ∀ x, w1.heap.size ≤ x → r.kv.ownBlock ≠ some x := fun x hx e => by have := hkw x e; omega
    have hvn : ∀ x, w1.heap.size ≤ x → x < w2.heap.size → (Value.slice A7 (d.kept.length + 1) c7).ownBlock ≠ some x := fun x hx hx2 => LieOf.ne hlie3 (by rw [← HKV.out]; exact hkn x hx) (by simp; omega)
    have hro : W3.ownsRow r.kb 47 4 (.slice A7 (d.kept.length + 1) c7) (d.kept.length + 1) (us ++ [.int .i64 g.wit, .int .i64 g.sig.index, .slice A5 g.sig.parts.length c5, .slice A6 g.sig.path.length c6]) := hown3
    have hli : (Value.slice A7 (d.kept.length + 1) c7).ownBlock = r.kv.ownBlock ∨ ∃ q, (Value.slice A7 (d.kept.length + 1) c7).ownBlock = some q ∧ w1.heap.size ≤ q := by
     rcases hlie3 with e | ⟨q, e, hq⟩
     ·exact .inl (by rw [HKV.out]; exact e)
     ·exact .inr ⟨q, e, by simp at hq; omega⟩
    have hcg : CgRow (fun x => Fresh w1 W3 x ∧ (Value.slice A7 (d.kept.length + 1) c7).ownBlock ≠ some x) W3 [.int .i64 g.wit, .int .i64 g.sig.index, .slice A5 g.sig.parts.length c5, .slice A6 g.sig.path.length c6] [g] := by
     have hm : ∀ x, (w1.heap.size ≤ x ∧ x < w2.heap.size) → (Fresh w1 W3 x ∧ (Value.slice A7 (d.kept.length + 1) c7).ownBlock ≠ some x) := fun x hx => ⟨⟨hx.1, by omega⟩, hvn x hx.1 hx.2⟩
     refine ⟨rfl, fun i hi => ?_⟩
     obtain rfl : i = 0 := by simpa using hi
     exact ⟨_, _, rfl, rfl, rfl, rfl, (H2.out.1.chg hcA (fun x hx e => hkn x hx.1 e)).mono hm, (H2.out.2.1.chg hcA (fun x hx e => hkn x hx.1 e)).mono hm⟩
    have x12 := b3.cell 12 _ rfl
    have y12 := b3.free 12
    have hfl3 := b3.lt
    have H3 := Lib.hid (And.intro hro (And.intro hli (And.intro hc1 (And.intro hcg b3))))
    clear hown3 hgrow3 hlie3 hcA hc1 b3 hkw hkn hvn hro hli hcg
    simp only [Act.put, List.getElem_toArray, List.getElem_cons_succ, List.getElem_cons_zero, List.setIfInBounds_toArray, List.set_cons_zero, List.set_cons_succ]
    refine hK _ _ ?_
    clear hK K; try simp only [Act.put, sa, sb, sc]
    refine ay 9 22 rfl rfl ?_; simp only [sa, sb, sc]
    refine ay 10 23 rfl rfl ?_; simp only [sa, sb, sc]
    refine wpAny_ready (rs := [11]) (by kernel_rfl) (by simp) ?_
    refine AllReady.cons rfl (fun K hK => ?_) AllReady.nil
    go_simp
    refine hK _ _ ?_
    clear hK K; try simp only [Act.put, sa, sb, sc]
    refine wpAny_done (by kernel_rfl) ?_ _
   case' w2_5_6_4 =>
    go_simp
    refine hK _ _ ?_
    clear hK K; try simp only [Act.put, sa, sb, sc]
    refine wpAny_ready (rs := [7]) (by kernel_rfl) (by simp) ?_
    refine AllReady.cons rfl (fun K hK => ?_) AllReady.nil
    go_simp
    have hal := (Below.refl w2.heap.size w2).alloc (Nat.le_refl _) (.cells #[.int .i64 g.wit, .int .i64 g.sig.index, .slice A5 g.sig.parts.length c5, .slice A6 g.sig.path.length c6] 47)
    have i0' := (hal.cell (p := ⟨w.heap.size, 0, none⟩) hbl2).trans j0
    have i1' := (hal.cell (p := ⟨w.heap.size, 1, none⟩) hbl2).trans j1
    have i2' := (hal.cell (p := ⟨w.heap.size, 2, none⟩) hbl2).trans j2
    have i3' := (hal.cell (p := ⟨w.heap.size, 3, none⟩) hbl2).trans j3
    have if' := (hal.cell (p := ⟨f, 12, none⟩) hfl2).trans jf
    refine hK _ _ ?_
    clear hK K; try simp only [Act.put, sa, sb, sc]
    refine wpAny_ready (rs := [8]) (by kernel_rfl) (by simp) ?_
    refine AllReady.cons rfl (fun K hK => ?_) AllReady.nil
    skip
    refine step_append_lie rfl (.tmp 17) (.tmp 20) 49 rfl r.kb 47 i0 (.agg #[.int .i64 0, .int .i64 0, .slice none 0 0, .slice none 0 0]) 4 64 Tryz.underlying49 hi0 hz0 hz1 hz2 rfl (by decide) _ d.kept.length us rfl (by rw [← HKV.out]; exact World.ownsRow.alloc H2.out.2.2.2.2.kp _) _ 1 [.int .i64 g.wit, .int .i64 g.sig.index, .slice A5 g.sig.parts.length c5, .slice A6 g.sig.path.length c6] rfl ((Sho.new w2 47 [.int .i64 g.wit, .int .i64 g.sig.index, .slice A5 g.sig.parts.length c5, .slice A6 g.sig.path.length c6] 1 4 1 rfl (Nat.le_refl _) (by decide)).news (fun u hu => by simp at hu; rcases hu with rfl | rfl | rfl | rfl <;> rfl)) (by unfold maxLen; omega) (by omega) (by have := H2.out.2.2.2.2.kbl; simp; omega) ?_
    intro v3 W3 hown3 hgrow3 hlie3
    obtain ⟨A7, c7, rfl⟩ := (Sho.own hown3).form
    have hcA : Chg w2 W3 (fun x => r.kv.ownBlock = some x) := by rw [HKV.out]; exact ((Chg.refl w2 _).alloc _).trans (Chg.of_grown hgrow3) (fun i _ h => h.symm)
    have hc1 : Chg w1 W3 (fun x => r.kv.ownBlock = some x) := ((Chg.refl w1 _).trans (Chg.of_below (S := fun _ => False) H2.out.2.2.1) (fun _ _ h => h.elim)).trans hcA (fun _ _ h => h)
    have b3 := H2.out.2.2.2.2.blk.chg hcA HOK.out.n2
    have hz1 := H2.out.2.2.1.size
    have hzA := hcA.size
    have hkw : ∀ x, r.kv.ownBlock = some x → x < w1.heap.size := fun x hx => (World.ownsRow.lt H1.out.2.2.kp x hx).2
    have hkn : ∀ x, w1.heap.size ≤ x → r.kv.ownBlock ≠ some x := fun x hx e => by have := hkw x e; omega
    have hvn : ∀ x, w1.heap.size ≤ x → x < w2.heap.size → (Value.slice A7 (d.kept.length + 1) c7).ownBlock ≠ some x := fun x hx hx2 => LieOf.ne hlie3 (by rw [← HKV.out]; exact hkn x hx) (by simp; omega)
    have hro : W3.ownsRow r.kb 47 4 (.slice A7 (d.kept.length + 1) c7) (d.kept.length + 1) (us ++ [.int .i64 g.wit, .int .i64 g.sig.index, .slice A5 g.sig.parts.length c5, .slice A6 g.sig.path.length c6]) := hown3
    have hli : (Value.slice A7 (d.kept.length + 1) c7).ownBlock = r.kv.ownBlock ∨ ∃ q, (Value.slice A7 (d.kept.length + 1) c7).ownBlock = some q ∧ w1.heap.size ≤ q := by
     rcases hlie3 with e | ⟨q, e, hq⟩
     ·exact .inl (by rw [HKV.out]; exact e)
     ·exact .inr ⟨q, e, by simp at hq; omega⟩
    have hcg : CgRow (fun x => Fresh w1 W3 x ∧ (Value.slice A7 (d.kept.length + 1) c7).ownBlock ≠ some x) W3 [.int .i64 g.wit, .int .i64 g.sig.index, .slice A5 g.sig.parts.length c5, .slice A6 g.sig.path.length c6] [g] := by
     have hm : ∀ x, (w1.heap.size ≤ x ∧ x < w2.heap.size) → (Fresh w1 W3 x ∧ (Value.slice A7 (d.kept.length + 1) c7).ownBlock ≠ some x) := fun x hx => ⟨⟨hx.1, by omega⟩, hvn x hx.1 hx.2⟩
     refine ⟨rfl, fun i hi => ?_⟩
     obtain rfl : i = 0 := by simpa using hi
     exact ⟨_, _, rfl, rfl, rfl, rfl, (H2.out.1.chg hcA (fun x hx e => hkn x hx.1 e)).mono hm, (H2.out.2.1.chg hcA (fun x hx e => hkn x hx.1 e)).mono hm⟩
    have x12 := b3.cell 12 _ rfl
    have y12 := b3.free 12
    have hfl3 := b3.lt
    have H3 := Lib.hid (And.intro hro (And.intro hli (And.intro hc1 (And.intro hcg b3))))
    clear hown3 hgrow3 hlie3 hcA hc1 b3 hkw hkn hvn hro hli hcg
    simp only [Act.put, List.getElem_toArray, List.getElem_cons_succ, List.getElem_cons_zero, List.setIfInBounds_toArray, List.set_cons_zero, List.set_cons_succ]
    refine hK _ _ ?_
    clear hK K; try simp only [Act.put, sa, sb, sc]
    refine ay 9 22 rfl rfl ?_; simp only [sa, sb, sc]
    refine ay 10 23 rfl rfl ?_; simp only [sa, sb, sc]
    refine wpAny_ready (rs := [11]) (by kernel_rfl) (by simp) ?_
    refine AllReady.cons rfl (fun K hK => ?_) AllReady.nil
    go_simp
    refine hK _ _ ?_
    clear hK K; try simp only [Act.put, sa, sb, sc]
    refine wpAny_done (by kernel_rfl) ?_ _
  case' w2_5_4 =>
   go_simp
   refine hK _ _ ?_
   clear hK K; try simp only [Act.put, sa, sb, sc]
   refine wpAny_ready (rs := [6]) (by kernel_rfl) (by simp) ?_
   refine AllReady.cons rfl (fun K hK => ?_) AllReady.nil
   go_simp
   go_at_call 33
   refine (HCP.out w1 _ ⟨_, _, rfl, HX.out.1.below H1.out.2.1, HX.out.2.below H1.out.2.1⟩).mono ?_
   rintro e w2 ⟨v2, rfl, ⟨p2, q2, rfl, h2, h3⟩, h4⟩
   obtain ⟨A5, c5, rfl⟩ := h2.rws.form
   obtain ⟨A6, c6, rfl⟩ := h3.rws.form
   have kA := H1.out.1.below h4
   have kF := H1.out.2.2.below h4
   have j0 := kA.cell 0 _ rfl
   have j1 := kA.cell 1 _ rfl
   have j2 := kA.cell 2 _ rfl
   have j3 := kA.cell 3 _ rfl
   have jf : w2.cell? ⟨f, 12, none⟩ = some (.slice KA d.kept.length kc) := by rw [← HKV.out]; exact kF.blk.cell 12 _ rfl
   have hfl2 := kF.blk.lt
   have hbl2 := kA.lt
   have H2 := Lib.hid (And.intro (show RwsF (fun x => w1.heap.size ≤ x ∧ x < w2.heap.size) w2 (.slice A5 g.sig.parts.length c5) g.sig.parts from h2) (And.intro (show RwsF (fun x => w1.heap.size ≤ x ∧ x < w2.heap.size) w2 (.slice A6 g.sig.path.length c6) g.sig.path from h3) (And.intro h4 (And.intro kA kF))))
   clear h2 h3 h4 kA kF
   try dsimp only
   refine hK _ _ ?_
   clear hK K; try simp only [Act.put, sa, sb, sc]
   refine wpAny_ready (rs := [7]) (by kernel_rfl) (by simp) ?_
   refine AllReady.cons rfl (fun K hK => ?_) AllReady.nil
   go_simp
   have hal := (Below.refl w2.heap.size w2).alloc (Nat.le_refl _) (.cells #[.int .i64 g.wit, .int .i64 g.sig.index, .slice A5 g.sig.parts.length c5, .slice A6 g.sig.path.length c6] 47)
   have i0' := (hal.cell (p := ⟨w.heap.size, 0, none⟩) hbl2).trans j0
   have i1' := (hal.cell (p := ⟨w.heap.size, 1, none⟩) hbl2).trans j1
   have i2' := (hal.cell (p := ⟨w.heap.size, 2, none⟩) hbl2).trans j2
   have i3' := (hal.cell (p := ⟨w.heap.size, 3, none⟩) hbl2).trans j3
   have if' := (hal.cell (p := ⟨f, 12, none⟩) hfl2).trans jf
   refine hK _ _ ?_
   clear hK K; try simp only [Act.put, sa, sb, sc]
   refine wpAny_ready (rs := [8]) (by kernel_rfl) (by simp) ?_
   refine AllReady.cons rfl (fun K hK => ?_) AllReady.nil
   skip
   refine step_append_lie rfl (.tmp 17) (.tmp 20) 49 rfl r.kb 47 i0 (.agg #[.int .i64 0, .int .i64 0, .slice none 0 0, .slice none 0 0]) 4 64 Tryz.underlying49 hi0 hz0 hz1 hz2 rfl (by decide) _ d.kept.length us rfl (by rw [← HKV.out]; exact World.ownsRow.alloc H2.out.2.2.2.2.kp _) _ 1 [.int .i64 g.wit, .int .i64 g.sig.index, .slice A5 g.sig.parts.length c5, .slice A6 g.sig.path.length c6] rfl ((Sho.new w2 47 [.int .i64 g.wit, .int .i64 g.sig.index, .slice A5 g.sig.parts.length c5, .slice A6 g.sig.path.length c6] 1 4 1 rfl (Nat.le_refl _) (by decide)).news (fun u hu => by simp at hu; rcases hu with rfl | rfl | rfl | rfl <;> rfl)) (by unfold maxLen; omega) (by omega) (by have := H2.out.2.2.2.2.kbl; simp; omega) ?_
   intro v3 W3 hown3 hgrow3 hlie3
   obtain ⟨A7, c7, rfl⟩ := (Sho.own hown3).form
   have hcA : Chg w2 W3 (fun x => r.kv.ownBlock = some x) := by rw [HKV.out]; exact ((Chg.refl w2 _).alloc _).trans (Chg.of_grown hgrow3) (fun i _ h => h.symm)
   have hc1 : Chg w1 W3 (fun x => r.kv.ownBlock = some x) := ((Chg.refl w1 _).trans (Chg.of_below (S := fun _ => False) H2.out.2.2.1) (fun _ _ h => h.elim)).trans hcA (fun _ _ h => h)
   have b3 := H2.out.2.2.2.2.blk.chg hcA HOK.out.n2
   have hz1 := H2.out.2.2.1.size
   have hzA := hcA.size
   have hkw : ∀ x, r.kv.ownBlock = some x → x < w1.heap.size := fun x hx => (World.ownsRow.lt H1.out.2.2.kp x hx).2
   have hkn : ∀ x, w1.heap.size ≤ x → r.kv.ownBlock ≠ some x := fun x hx e => by have := hkw x e; omega
   have hvn : ∀ x, w1.heap.size ≤ x → x < w2.heap.size → (Value.slice A7 (d.kept.length + 1) c7).ownBlock ≠ some x := fun x hx hx2 => LieOf.ne hlie3 (by rw [← HKV.out]; exact hkn x hx) (by simp; omega)
   have hro : W3.ownsRow r.kb 47 4 (.slice A7 (d.kept.length + 1) c7) (d.kept.length + 1) (us ++ [.int .i64 g.wit, .int .i64 g.sig.index, .slice A5 g.sig.parts.length c5, .slice A6 g.sig.path.length c6]) := hown3
   have hli : (Value.slice A7 (d.kept.length + 1) c7).ownBlock = r.kv.ownBlock ∨ ∃ q, (Value.slice A7 (d.kept.length + 1) c7).ownBlock = some q ∧ w1.heap.size ≤ q := by
    rcases hlie3 with e | ⟨q, e, hq⟩
    ·exact .inl (by rw [HKV.out]; exact e)
    ·exact .inr ⟨q, e, by simp at hq; omega⟩
   have hcg : CgRow (fun x => Fresh w1 W3 x ∧ (Value.slice A7 (d.kept.length + 1) c7).ownBlock ≠ some x) W3 [.int .i64 g.wit, .int .i64 g.sig.index, .slice A5 g.sig.parts.length c5, .slice A6 g.sig.path.length c6] [g] := by
    have hm : ∀ x, (w1.heap.size ≤ x ∧ x < w2.heap.size) → (Fresh w1 W3 x ∧ (Value.slice A7 (d.kept.length + 1) c7).ownBlock ≠ some x) := fun x hx => ⟨⟨hx.1, by omega⟩, hvn x hx.1 hx.2⟩
    refine ⟨rfl, fun i hi => ?_⟩
    obtain rfl : i = 0 := by simpa using hi
    exact ⟨_, _, rfl, rfl, rfl, rfl, (H2.out.1.chg hcA (fun x hx e => hkn x hx.1 e)).mono hm, (H2.out.2.1.chg hcA (fun x hx e => hkn x hx.1 e)).mono hm⟩
   have x12 := b3.cell 12 _ rfl
   have y12 := b3.free 12
   have hfl3 := b3.lt
   have H3 := Lib.hid (And.intro hro (And.intro hli (And.intro hc1 (And.intro hcg b3))))
   clear hown3 hgrow3 hlie3 hcA hc1 b3 hkw hkn hvn hro hli hcg
   simp only [Act.put, List.getElem_toArray, List.getElem_cons_succ, List.getElem_cons_zero, List.setIfInBounds_toArray, List.set_cons_zero, List.set_cons_succ]
   refine hK _ _ ?_
   clear hK K; try simp only [Act.put, sa, sb, sc]
   refine ay 9 22 rfl rfl ?_; simp only [sa, sb, sc]
   refine ay 10 23 rfl rfl ?_; simp only [sa, sb, sc]
   refine wpAny_ready (rs := [11]) (by kernel_rfl) (by simp) ?_
   refine AllReady.cons rfl (fun K hK => ?_) AllReady.nil
   go_simp
   refine hK _ _ ?_
   clear hK K; try simp only [Act.put, sa, sb, sc]
   refine wpAny_done (by kernel_rfl) ?_ _
 case' w2_4 =>
  go_simp
  refine hK _ _ ?_
  clear hK K; try simp only [Act.put, sa, sb, sc]
  refine wpAny_ready (rs := [5]) (by kernel_rfl) (by simp) ?_
  refine AllReady.cons rfl (fun K hK => ?_) AllReady.nil
  go_simp
  refine hK _ _ ?_
  clear hK K; try simp only [Act.put, sa, sb, sc]
  refine wpAny_ready (rs := [6]) (by kernel_rfl) (by simp) ?_
  refine AllReady.cons rfl (fun K hK => ?_) AllReady.nil
  go_simp
  go_at_call 33
  refine (HCP.out w1 _ ⟨_, _, rfl, HX.out.1.below H1.out.2.1, HX.out.2.below H1.out.2.1⟩).mono ?_
  rintro e w2 ⟨v2, rfl, ⟨p2, q2, rfl, h2, h3⟩, h4⟩
  obtain ⟨A5, c5, rfl⟩ := h2.rws.form
  obtain ⟨A6, c6, rfl⟩ := h3.rws.form
  have kA := H1.out.1.below h4
  have kF := H1.out.2.2.below h4
  have j0 := kA.cell 0 _ rfl
  have j1 := kA.cell 1 _ rfl
  have j2 := kA.cell 2 _ rfl
  have j3 := kA.cell 3 _ rfl
  have jf : w2.cell? ⟨f, 12, none⟩ = some (.slice KA d.kept.length kc) := by rw [← HKV.out]; exact kF.blk.cell 12 _ rfl
  have hfl2 := kF.blk.lt
  have hbl2 := kA.lt
  have H2 := Lib.hid (And.intro (show RwsF (fun x => w1.heap.size ≤ x ∧ x < w2.heap.size) w2 (.slice A5 g.sig.parts.length c5) g.sig.parts from h2) (And.intro (show RwsF (fun x => w1.heap.size ≤ x ∧ x < w2.heap.size) w2 (.slice A6 g.sig.path.length c6) g.sig.path from h3) (And.intro h4 (And.intro kA kF))))
  clear h2 h3 h4 kA kF
  try dsimp only
  refine hK _ _ ?_
  clear hK K; try simp only [Act.put, sa, sb, sc]
  refine wpAny_ready (rs := [7]) (by kernel_rfl) (by simp) ?_
  refine AllReady.cons rfl (fun K hK => ?_) AllReady.nil
  go_simp
  have hal := (Below.refl w2.heap.size w2).alloc (Nat.le_refl _) (.cells #[.int .i64 g.wit, .int .i64 g.sig.index, .slice A5 g.sig.parts.length c5, .slice A6 g.sig.path.length c6] 47)
  have i0' := (hal.cell (p := ⟨w.heap.size, 0, none⟩) hbl2).trans j0
  have i1' := (hal.cell (p := ⟨w.heap.size, 1, none⟩) hbl2).trans j1
  have i2' := (hal.cell (p := ⟨w.heap.size, 2, none⟩) hbl2).trans j2
  have i3' := (hal.cell (p := ⟨w.heap.size, 3, none⟩) hbl2).trans j3
  have if' := (hal.cell (p := ⟨f, 12, none⟩) hfl2).trans jf
  refine hK _ _ ?_
  clear hK K; try simp only [Act.put, sa, sb, sc]
  refine wpAny_ready (rs := [8]) (by kernel_rfl) (by simp) ?_
  refine AllReady.cons rfl (fun K hK => ?_) AllReady.nil
  skip
  refine step_append_lie rfl (.tmp 17) (.tmp 20) 49 rfl r.kb 47 i0 (.agg #[.int .i64 0, .int .i64 0, .slice none 0 0, .slice none 0 0]) 4 64 Tryz.underlying49 hi0 hz0 hz1 hz2 rfl (by decide) _ d.kept.length us rfl (by rw [← HKV.out]; exact World.ownsRow.alloc H2.out.2.2.2.2.kp _) _ 1 [.int .i64 g.wit, .int .i64 g.sig.index, .slice A5 g.sig.parts.length c5, .slice A6 g.sig.path.length c6] rfl ((Sho.new w2 47 [.int .i64 g.wit, .int .i64 g.sig.index, .slice A5 g.sig.parts.length c5, .slice A6 g.sig.path.length c6] 1 4 1 rfl (Nat.le_refl _) (by decide)).news (fun u hu => by simp at hu; rcases hu with rfl | rfl | rfl | rfl <;> rfl)) (by unfold maxLen; omega) (by omega) (by have := H2.out.2.2.2.2.kbl; simp; omega) ?_
  intro v3 W3 hown3 hgrow3 hlie3
  obtain ⟨A7, c7, rfl⟩ := (Sho.own hown3).form
  have hcA : Chg w2 W3 (fun x => r.kv.ownBlock = some x) := by rw [HKV.out]; exact ((Chg.refl w2 _).alloc _).trans (Chg.of_grown hgrow3) (fun i _ h => h.symm)
  have hc1 : Chg w1 W3 (fun x => r.kv.ownBlock = some x) := ((Chg.refl w1 _).trans (Chg.of_below (S := fun _ => False) H2.out.2.2.1) (fun _ _ h => h.elim)).trans hcA (fun _ _ h => h)
  have b3 := H2.out.2.2.2.2.blk.chg hcA HOK.out.n2
  have hz1 := H2.out.2.2.1.size
  have hzA := hcA.size
  have hkw : ∀ x, r.kv.ownBlock = some x → x < w1.heap.size := fun x hx => (World.ownsRow.lt H1.out.2.2.kp x hx).2
  have hkn : ∀ x, w1.heap.size ≤ x → r.kv.ownBlock ≠ some x := fun x hx e => by have := hkw x e; omega
  have hvn : ∀ x, w1.heap.size ≤ x → x < w2.heap.size → (Value.slice A7 (d.kept.length + 1) c7).ownBlock ≠ some x := fun x hx hx2 => LieOf.ne hlie3 (by rw [← HKV.out]; exact hkn x hx) (by simp; omega)
  have hro : W3.ownsRow r.kb 47 4 (.slice A7 (d.kept.length + 1) c7) (d.kept.length + 1) (us ++ [.int .i64 g.wit, .int .i64 g.sig.index, .slice A5 g.sig.parts.length c5, .slice A6 g.sig.path.length c6]) := hown3
  have hli : (Value.slice A7 (d.kept.length + 1) c7).ownBlock = r.kv.ownBlock ∨ ∃ q, (Value.slice A7 (d.kept.length + 1) c7).ownBlock = some q ∧ w1.heap.size ≤ q := by
   rcases hlie3 with e | ⟨q, e, hq⟩
   ·exact .inl (by rw [HKV.out]; exact e)
   ·exact .inr ⟨q, e, by simp at hq; omega⟩
  have hcg : CgRow (fun x => Fresh w1 W3 x ∧ (Value.slice A7 (d.kept.length + 1) c7).ownBlock ≠ some x) W3 [.int .i64 g.wit, .int .i64 g.sig.index, .slice A5 g.sig.parts.length c5, .slice A6 g.sig.path.length c6] [g] := by
   have hm : ∀ x, (w1.heap.size ≤ x ∧ x < w2.heap.size) → (Fresh w1 W3 x ∧ (Value.slice A7 (d.kept.length + 1) c7).ownBlock ≠ some x) := fun x hx => ⟨⟨hx.1, by omega⟩, hvn x hx.1 hx.2⟩
   refine ⟨rfl, fun i hi => ?_⟩
   obtain rfl : i = 0 := by simpa using hi
   exact ⟨_, _, rfl, rfl, rfl, rfl, (H2.out.1.chg hcA (fun x hx e => hkn x hx.1 e)).mono hm, (H2.out.2.1.chg hcA (fun x hx e => hkn x hx.1 e)).mono hm⟩
  have x12 := b3.cell 12 _ rfl
  have y12 := b3.free 12
  have hfl3 := b3.lt
  have H3 := Lib.hid (And.intro hro (And.intro hli (And.intro hc1 (And.intro hcg b3))))
  clear hown3 hgrow3 hlie3 hcA hc1 b3 hkw hkn hvn hro hli hcg
  simp only [Act.put, List.getElem_toArray, List.getElem_cons_succ, List.getElem_cons_zero, List.setIfInBounds_toArray, List.set_cons_zero, List.set_cons_succ]
  refine hK _ _ ?_
  clear hK K; try simp only [Act.put, sa, sb, sc]
  refine ay 9 22 rfl rfl ?_; simp only [sa, sb, sc]
  refine ay 10 23 rfl rfl ?_; simp only [sa, sb, sc]
  refine wpAny_ready (rs := [11]) (by kernel_rfl) (by simp) ?_
  refine AllReady.cons rfl (fun K hK => ?_) AllReady.nil
  go_simp
  refine hK _ _ ?_
  clear hK K; try simp only [Act.put, sa, sb, sc]
  refine wpAny_done (by kernel_rfl) ?_ _
 all_goals
  have hc2 : Chg W3 (W3.setCell ⟨f, 12, none⟩ (.slice A7 (d.kept.length + 1) c7)) (fun k => k = f) := chg_cell (Chg.refl W3 _) 12 (.slice A7 (d.kept.length + 1) c7)
  have hb2 : Blk (W3.setCell ⟨f, 12, none⟩ (.slice A7 (d.kept.length + 1) c7)) f 68 (fdCells { d with kept := d.kept ++ [g] } { r with kv := .slice A7 (d.kept.length + 1) c7 }) := H3.out.2.2.2.2.set 12 (.slice A7 (d.kept.length + 1) c7) (by simp [fdCells])
  have hk4 := H1.out.2.2.kept H3.out.1 H3.out.2.1 H3.out.2.2.1 H3.out.2.2.2.1 hc2 hb2
  have hch : Chg w (W3.setCell ⟨f, 12, none⟩ (.slice A7 (d.kept.length + 1) c7)) Z := ((Chg.refl w Z).trans (Chg.of_below (S := fun _ => False) H1.out.2.1) (fun _ _ h => h.elim)).trans H3.out.2.2.1 (fun x _ e => HOK.out.mz x (.inr (.inr (.inl e)))) |>.trans hc2 (fun x _ e => HOK.out.mz x (.inl e))
  have hz14 : w.heap.size ≤ w1.heap.size := H1.out.2.1.size
  generalize hW4 : W3.setCell ⟨f, 12, none⟩ (.slice A7 (d.kept.length + 1) c7) = W4 at *
  have H4 := Lib.hid (And.intro hk4 hch)
  have hlk : k < d.l.length := hk
  have z6 : W4.cell? ⟨f, 6, none⟩ = some (.int .i64 d.cur.ck.num) := hk4.blk.cell 6 _ rfl
  have z4 : W4.cell? ⟨f, 4, none⟩ = some (.pointer (some ⟨r.ab, 0, none⟩)) := hk4.blk.cell 4 _ rfl
  have s0 := hk4.wt.cell _ _ (cellsW_at d.l k hk).1
  have s2 := hk4.wt.cell _ _ (cellsW_at d.l k hk).2.2
  have y0 := hk4.wt.free (k * 3)
  have y2 := hk4.wt.free (k * 3 + 2)
  have hlf := hk4.blk.lt
  have hll := hk4.wt.lt
  have hn1 := hk4.n1
  clear hW4 hc2 hb2 hk4 hch x12 y12
  go_wp2_with fail
  have hc5 : Chg W4 ((W4.setCell ⟨r.lb, k * 3 + 2, none⟩ (.bool true)).setCell ⟨r.lb, k * 3, none⟩ (.int .i64 d.cur.ck.num)) (fun x => x = r.lb) := chg_cell (chg_cell (Chg.refl W4 _) (k * 3 + 2) _) (k * 3) _
  have hb5 : Blk ((W4.setCell ⟨r.lb, k * 3 + 2, none⟩ (.bool true)).setCell ⟨r.lb, k * 3, none⟩ (.int .i64 d.cur.ck.num)) r.lb 74 (cellsW (d.l.set k ⟨d.cur.ck.num, (wAt d.l k).tries, true⟩)) := by
   rw [cellsW_kept d.l k _ hk]
   have hl2 := (List.getElem?_eq_some_iff.1 (cellsW_at d.l k hk).2.2).1
   exact (H4.out.1.wt.set (k * 3 + 2) _ hl2).set (k * 3) _ (by have hl0 := (List.getElem?_eq_some_iff.1 (cellsW_at d.l k hk).1).1; show k * 3 < (List.set _ _ _).length; rw [List.length_set]; exact hl0)
  have hk5 := H4.out.1.setW (d.l.set k ⟨d.cur.ck.num, (wAt d.l k).tries, true⟩) (by simp) hc5 hb5
  have hch5 := H4.out.2.trans hc5 (fun x _ e => HOK.out.mz x (.inr (.inl e)))
  have hz45 := hc5.size
  generalize (W4.setCell ⟨r.lb, k * 3 + 2, none⟩ (.bool true)).setCell ⟨r.lb, k * 3, none⟩ (.int .i64 d.cur.ck.num) = W5 at *
  have hzW : Chg w W5 Z := hch5
  refine (cancel_any r.base r.ab r.av d.m d.ord (k : Int) (by omega) W5 hk5.ag).mono ?_
  rintro e W6 ⟨v6, rfl, h1, h2, h3⟩
  have H6 := Lib.hid (And.intro (hk5.agenda0 h1 h2 h3).1 (hch5.trans h3 (fun x _ e => HOK.out.mz x (.inr (.inr (.inr e))))))
  have hz56 := h3.size
  clear h1 h2 h3 hk5 hch5 hzW hc5 hb5 z4 z6 s0 s2 y0 y2
  have n12 : W6.cell? ⟨f, 12, none⟩ = some (.slice A7 (d.kept.length + 1) c7) := H6.out.1.blk.cell 12 _ rfl
  have n2 : W6.cell? ⟨f, 2, none⟩ = some (.int .i64 d.p.quorum) := H6.out.1.blk.cell 2 _ rfl
  have hf6 := H6.out.1.blk.lt
  go_wp2
  refine wp_region_held_drew (S := fun w' => w'.cell? ⟨f, 12, none⟩ = some (.slice A7 (d.kept.length + 1) c7) ∧ w'.cell? ⟨f, 2, none⟩ = some (.int .i64 d.p.quorum)) (by kernel_rfl) ?_ (fun hHeld => ?_)
  ·exact ⟨n12, n2⟩
  refine ty 0 42 rfl rfl ?_; simp only [sa, sb, sc]
  refine ty 1 43 rfl rfl ?_; simp only [sa, sb, sc]
  refine ty 2 44 rfl rfl ?_; simp only [sa, sb, sc]
  refine ty 3 45 rfl rfl ?_; simp only [sa, sb, sc]
  refine ty 4 46 rfl rfl ?_; simp only [sa, sb, sc]
  refine ty 5 47 rfl rfl ?_; simp only [sa, sb, sc]
  refine ty 6 48 rfl rfl ?_; simp only [sa, sb, sc]
  refine ty 7 49 rfl rfl ?_; simp only [sa, sb, sc]
  refine ty 8 50 rfl rfl ?_; simp only [sa, sb, sc]
  refine ty 9 51 rfl rfl ?_; simp only [sa, sb, sc]
  refine ty 10 52 rfl rfl ?_; simp only [sa, sb, sc]
  refine wpAnyH_done (by kernel_rfl) ?_ _
  by_cases hq : d.p.quorum ≤ ((d.kept.length + 1 : Nat) : Int)
  ·have hq2 : d.p.quorum ≤ (d.kept.length : Int) + 1 := by omega
   have hdr := (Below.refl W6.heap.size W6).drew
   have H7 := Lib.hid (And.intro (H6.out.1.below hdr) (H6.out.2.trans (Chg.of_below (S := fun _ => False) hdr) (fun _ _ h => h.elim)))
   have hz67 := hdr.size
   clear hdr hHeld n12 n2
   generalize W6.drew = W7 at *
   obtain ⟨RA, rc, hr1⟩ := HOK.out.tx.cr.1.form
   obtain ⟨RP, rp, hr2⟩ := HOK.out.tx.cp.rws.form
   obtain ⟨RQ, rq, hr3⟩ := HOK.out.tx.cq.rws.form
   have HRC := Lib.hid (And.intro hr1 (And.intro hr2 hr3))
   clear hr1 hr2 hr3
   have HCL := Lib.hid (fun (wz : World) (hz : Sho wz (.slice A7 (d.kept.length + 1) c7) (d.kept.length + 1) 4 (us ++ [.int .i64 g.wit, .int .i64 g.sig.index, .slice A5 g.sig.parts.length c5, .slice A6 g.sig.path.length c6])) => clonecg_any _ _ _ (by omega) H7.out.1.tx.kd.one wz hz)
   have m6 : W7.cell? ⟨f, 6, none⟩ = some (.int .i64 d.cur.ck.num) := by exact H7.out.1.blk.cell 6 _ rfl
   have m7 : W7.cell? ⟨f, 7, none⟩ = some (.slice RA d.cur.ck.root.length rc) := by rw [← HRC.out.1]; exact H7.out.1.blk.cell 7 _ rfl
   have m8 : W7.cell? ⟨f, 8, none⟩ = some (.int .i64 d.cur.sig.index) := by exact H7.out.1.blk.cell 8 _ rfl
   have m9 : W7.cell? ⟨f, 9, none⟩ = some (.slice RP d.cur.sig.parts.length rp) := by rw [← HRC.out.2.1]; exact H7.out.1.blk.cell 9 _ rfl
   have m10 : W7.cell? ⟨f, 10, none⟩ = some (.slice RQ d.cur.sig.path.length rq) := by rw [← HRC.out.2.2]; exact H7.out.1.blk.cell 10 _ rfl
   have m12 : W7.cell? ⟨f, 12, none⟩ = some (.slice A7 (d.kept.length + 1) c7) := by exact H7.out.1.blk.cell 12 _ rfl
   have hf7 := H7.out.1.blk.lt
   have hkp7 : W7.ownsRow r.kb 47 4 (.slice A7 (d.kept.length + 1) c7) (d.kept.length + 1) (us ++ [.int .i64 g.wit, .int .i64 g.sig.index, .slice A5 g.sig.parts.length c5, .slice A6 g.sig.path.length c6]) := by
    have h9 := H7.out.1.kp
    simpa only [List.length_append, List.length_cons, List.length_nil, Nat.zero_add] using h9
   go_wp2
   refine wp_region_held_drew (S := fun w' => w'.cell? ⟨f, 6, none⟩ = some (.int .i64 d.cur.ck.num) ∧ w'.cell? ⟨f, 7, none⟩ = some (.slice RA d.cur.ck.root.length rc) ∧ w'.cell? ⟨f, 8, none⟩ = some (.int .i64 d.cur.sig.index) ∧ w'.cell? ⟨f, 9, none⟩ = some (.slice RP d.cur.sig.parts.length rp) ∧ w'.cell? ⟨f, 10, none⟩ = some (.slice RQ d.cur.sig.path.length rq) ∧ w'.cell? ⟨f, 12, none⟩ = some (.slice A7 (d.kept.length + 1) c7)) (by kernel_rfl) ?_ (fun hHeld => ?_)
   ·exact ⟨m6, m7, m8, m9, m10, m12⟩
   refine ty 0 53 rfl rfl ?_; simp only [sa, sb, sc]
   refine ty 1 54 rfl rfl ?_; simp only [sa, sb, sc]
   refine ty 2 55 rfl rfl ?_; simp only [sa, sb, sc]
   refine ty 3 56 rfl rfl ?_; simp only [sa, sb, sc]
   refine ty 4 57 rfl rfl ?_; simp only [sa, sb, sc]
   refine ty 5 58 rfl rfl ?_; simp only [sa, sb, sc]
   refine ty 6 59 rfl rfl ?_; simp only [sa, sb, sc]
   refine ty 7 60 rfl rfl ?_; simp only [sa, sb, sc]
   refine ty 8 61 rfl rfl ?_; simp only [sa, sb, sc]
   refine ty 9 62 rfl rfl ?_; simp only [sa, sb, sc]
   refine rd 10 (by kernel_rfl) rfl (fun K hK => ?_)
   go_simp
   go_at_call 59
   refine (HCL.out W7.drew (Sho.own (ownsRow_chg hkp7 (Chg.of_below (S := fun _ => False) (Below.refl W7.heap.size W7).drew) (fun _ _ h => h)))).mono ?_
   rintro e W8 ⟨v8, rfl, h8, h9'⟩
   have h9 : Below W7.heap.size W7 W8 := ⟨h9'.os, h9'.tape, h9'.output, h9'.size, h9'.block⟩
   obtain ⟨A8, c8, rfl⟩ := (Sho.own h8).form
   have k8 := H7.out.1.below h9
   have u6 : W8.cell? ⟨f, 6, none⟩ = some (.int .i64 d.cur.ck.num) := by exact k8.blk.cell 6 _ rfl
   have u7 : W8.cell? ⟨f, 7, none⟩ = some (.slice RA d.cur.ck.root.length rc) := by rw [← HRC.out.1]; exact k8.blk.cell 7 _ rfl
   have u8 : W8.cell? ⟨f, 8, none⟩ = some (.int .i64 d.cur.sig.index) := by exact k8.blk.cell 8 _ rfl
   have u9 : W8.cell? ⟨f, 9, none⟩ = some (.slice RP d.cur.sig.parts.length rp) := by rw [← HRC.out.2.1]; exact k8.blk.cell 9 _ rfl
   have u10 : W8.cell? ⟨f, 10, none⟩ = some (.slice RQ d.cur.sig.path.length rq) := by rw [← HRC.out.2.2]; exact k8.blk.cell 10 _ rfl
   have u12 : W8.cell? ⟨f, 12, none⟩ = some (.slice A7 (d.kept.length + 1) c7) := by exact k8.blk.cell 12 _ rfl
   have hl8 := k8.blk.lt
   have y13 := k8.blk.free 13
   have y14 := k8.blk.free 14
   have y15 := k8.blk.free 15
   have y16 := k8.blk.free 16
   have y17 := k8.blk.free 17
   have y18 := k8.blk.free 18
   have x13 := k8.blk.cell 13 _ rfl
   have x14 := k8.blk.cell 14 _ rfl
   have x15 := k8.blk.cell 15 _ rfl
   have x16 := k8.blk.cell 16 _ rfl
   have x17 := k8.blk.cell 17 _ rfl
   have x18 := k8.blk.cell 18 _ rfl
   have H8 := Lib.hid (And.intro h8 (And.intro h9 k8))
   clear h8 h9 h9' k8
   try dsimp only
   refine hK.out _ _ ⟨u6, u7, u8, u9, u10, u12⟩ (fun hHeld10 => ?_)
   clear hK K; try simp only [Act.put, sa, sb, sc]
   refine ty 11 64 rfl rfl ?_; simp only [sa, sb, sc]
   refine ty 12 65 rfl rfl ?_; simp only [sa, sb, sc]
   refine rd 13 (by kernel_rfl) rfl (fun K hK => ?_)
   go_simp
   have b9 := (((((H8.out.2.2.blk.set 13 (.int .i64 d.cur.ck.num) (by simp [fdCells])).set 14 (.slice RA d.cur.ck.root.length rc) (by simp [fdCells])).set 15 (.int .i64 d.cur.sig.index) (by simp [fdCells])).set 16 (.slice RP d.cur.sig.parts.length rp) (by simp [fdCells])).set 17 (.slice RQ d.cur.sig.path.length rq) (by simp [fdCells]))
   have hc9 : Chg W8 (((((W8.setCell ⟨f, 13, none⟩ (.int .i64 d.cur.ck.num)).setCell ⟨f, 14, none⟩ (.slice RA d.cur.ck.root.length rc)).setCell ⟨f, 15, none⟩ (.int .i64 d.cur.sig.index)).setCell ⟨f, 16, none⟩ (.slice RP d.cur.sig.parts.length rp)).setCell ⟨f, 17, none⟩ (.slice RQ d.cur.sig.path.length rq)) (fun k => k = f) := (chg_cell (chg_cell (chg_cell (chg_cell (chg_cell (Chg.refl W8 _) 13 (.int .i64 d.cur.ck.num)) 14 (.slice RA d.cur.ck.root.length rc)) 15 (.int .i64 d.cur.sig.index)) 16 (.slice RP d.cur.sig.parts.length rp)) 17 (.slice RQ d.cur.sig.path.length rq))
   generalize (((((W8.setCell ⟨f, 13, none⟩ (.int .i64 d.cur.ck.num)).setCell ⟨f, 14, none⟩ (.slice RA d.cur.ck.root.length rc)).setCell ⟨f, 15, none⟩ (.int .i64 d.cur.sig.index)).setCell ⟨f, 16, none⟩ (.slice RP d.cur.sig.parts.length rp)).setCell ⟨f, 17, none⟩ (.slice RQ d.cur.sig.path.length rq)) = W9 at *
   have t6 : W9.cell? ⟨f, 6, none⟩ = some (.int .i64 d.cur.ck.num) := by exact b9.cell 6 _ rfl
   have t7 : W9.cell? ⟨f, 7, none⟩ = some (.slice RA d.cur.ck.root.length rc) := by rw [← HRC.out.1]; exact b9.cell 7 _ rfl
   have t8 : W9.cell? ⟨f, 8, none⟩ = some (.int .i64 d.cur.sig.index) := by exact b9.cell 8 _ rfl
   have t9 : W9.cell? ⟨f, 9, none⟩ = some (.slice RP d.cur.sig.parts.length rp) := by rw [← HRC.out.2.1]; exact b9.cell 9 _ rfl
   have t10 : W9.cell? ⟨f, 10, none⟩ = some (.slice RQ d.cur.sig.path.length rq) := by rw [← HRC.out.2.2]; exact b9.cell 10 _ rfl
   have t12 : W9.cell? ⟨f, 12, none⟩ = some (.slice A7 (d.kept.length + 1) c7) := by exact b9.cell 12 _ rfl
   have y18' := b9.free 18
   have x18' := b9.cell 18 _ rfl
   have hl9 := b9.lt
   have H9 := Lib.hid (And.intro b9 hc9)
   clear b9 hc9
   refine hK.out _ _ ⟨t6, t7, t8, t9, t10, t12⟩ (fun hHeld13 => ?_)
   clear hK K; try simp only [Act.put, sa, sb, sc]
   refine ty 14 66 rfl rfl ?_; simp only [sa, sb, sc]
   refine ty 15 67 rfl rfl ?_; simp only [sa, sb, sc]
   refine rd 16 (by kernel_rfl) rfl (fun K hK => ?_)
   go_simp
   have b10 := H9.out.1.set 18 (.slice A8 (d.kept.length + 1) c8) (by simp [fdCells])
   have hc10 := H9.out.2.trans (chg_cell (Chg.refl W9 (fun k => k = f)) 18 (.slice A8 (d.kept.length + 1) c8)) (fun _ _ h => h)
   generalize W9.setCell ⟨f, 18, none⟩ (.slice A8 (d.kept.length + 1) c8) = W10 at *
   have s6 : W10.cell? ⟨f, 6, none⟩ = some (.int .i64 d.cur.ck.num) := by exact b10.cell 6 _ rfl
   have s7 : W10.cell? ⟨f, 7, none⟩ = some (.slice RA d.cur.ck.root.length rc) := by rw [← HRC.out.1]; exact b10.cell 7 _ rfl
   have s8 : W10.cell? ⟨f, 8, none⟩ = some (.int .i64 d.cur.sig.index) := by exact b10.cell 8 _ rfl
   have s9 : W10.cell? ⟨f, 9, none⟩ = some (.slice RP d.cur.sig.parts.length rp) := by rw [← HRC.out.2.1]; exact b10.cell 9 _ rfl
   have s10 : W10.cell? ⟨f, 10, none⟩ = some (.slice RQ d.cur.sig.path.length rq) := by rw [← HRC.out.2.2]; exact b10.cell 10 _ rfl
   have s12 : W10.cell? ⟨f, 12, none⟩ = some (.slice A7 (d.kept.length + 1) c7) := by exact b10.cell 12 _ rfl
   have H10 := Lib.hid (And.intro b10 hc10)
   clear b10 hc10
   refine hK.out _ _ ⟨s6, s7, s8, s9, s10, s12⟩ (fun hHeld16 => ?_)
   clear hK K; try simp only [Act.put, sa, sb, sc]
   refine wpAnyH_done (by kernel_rfl) ?_ _
   go_wp2
   go_end0
   refine ⟨rfl, ?_, ?_⟩
   ·have hz4 := H4.out.2.size
    have hz8 := H8.out.2.1.size
    have hz10 := H10.out.2.size
    have hz7 := H7.out.2.size
    have hz46 : W4.heap.size ≤ W10.heap.size := by omega
    have hw8 := H8.out.2.2.wide (Z' := Wide Z w W10) (fun x hx => by
     rcases hx with hx | hx
     ·exact .inl hx
     ·exact .inr ⟨by have : w1.heap.size ≤ x := hx.1; omega, by have : x < W4.heap.size := hx.2; omega⟩)
    have hsho := Sho.own H8.out.1
    have hkd : keepD d k g = { keep0 d k g with done := d.cur, enough := d.kept ++ [g] } := by unfold keepD; rw [if_pos hq]
    rw [hkd]
    have hfin := hw8.finish (ev := .slice A8 (d.kept.length + 1) c8) (W2 := W10) (by
      have e : (d.kept ++ [g]).length = d.kept.length + 1 := by simp
      show Sho W8 _ (d.kept ++ [g]).length 4 _
      rw [e]; exact hsho) (fun _ x hx => by
      have h1 : W7.heap.size ≤ x ∧ x < W8.heap.size := World.ownsRow.lt H8.out.1 x hx
      exact ⟨.inr ⟨by omega, by omega⟩, fun e => by have := H7.out.1.lt x e; omega⟩) H10.out.2 (by
      have h := H10.out.1
      simp only [fdCells, List.set_cons_succ, List.set_cons_zero, HRC.out.1, HRC.out.2.1, HRC.out.2.2] at h ⊢
      exact h)
    exact ⟨_, _, _, hfin⟩
   ·exact (H7.out.2.trans (Chg.of_below (S := fun _ => False) H8.out.2.1) (fun _ _ h => h.elim)).trans H10.out.2 (fun x _ e => HOK.out.mz x (.inl e))
  ·have hkd : keepD d k g = keep0 d k g := by unfold keepD; rw [if_neg hq]
   have HKD := Lib.hid hkd
   have hq2 : ¬ d.p.quorum ≤ (d.kept.length : Int) + 1 := by omega
   have hdr := (Below.refl W6.heap.size W6).drew
   have H7 := Lib.hid (And.intro (H6.out.1.below hdr) (H6.out.2.trans (Chg.of_below (S := fun _ => False) hdr) (fun _ _ h => h.elim)))
   have hz67 := hdr.size
   clear hkd hdr hHeld n12 n2
   generalize W6.drew = W7 at *
   go_wp2
   go_end0
   refine ⟨rfl, ?_, H7.out.2⟩
   rw [HKD.out]
   have hz4 := H4.out.2.size
   have hz7 := H7.out.2.size
   exact ⟨_, _, _, H7.out.1.wide (fun x hx => by
    rcases hx with hx | hx
    ·exact .inl hx
    ·exact .inr ⟨by have : w1.heap.size ≤ x := hx.1; omega, by have : x < W4.heap.size := hx.2; omega⟩)⟩
set_option maxRecDepth 100000 in
set_option maxHeartbeats 8000000 in
theorem reply_kv (Z : Nat → Prop) (f : Nat) (d : FdD) (r : FdR) (us es : List Value) (v : Value) (g : CgD) (k : Nat) (size now : Int) (hp : SmallPol d.p) (hr : d.cur.ck.root.length ≤ 100000000) (hs : SmallSig g.sig) (w : World) (hok : FdOk Z w f d r us es) (hv : CgV w v g) (hgw : g.wit = (k : Int)) (hhas : d.has = true) (hkl : k < d.l.length) (hke : (wAt d.l k).kept = false) (hyes : cgVerB d.p d.cur.ck g = true) (hkk : d.kept.length ≤ 1000) (hm : d.m.length ≤ 1000000) (hl : d.l.length ≤ 1000) (hZ : ∀ g, Z g → g < w.heap.size) :
  Calls Tryz.prog 12 #[.pointer (some ⟨f, 0, none⟩), .int .i64 k, v, .int .i64 size, .int .i64 now] w fun e w' => e = .returned (.bool true) ∧ FdAt (Wide Z w w') w' f (keepD d k g) ∧ Chg w w' Z := by
 have HZ := Lib.hid hZ
 have HGW := Lib.hid hgw
 have HYES := Lib.hid hyes
 have HVF := Lib.hid (fun (wz : World) (vp vc vg : Value) (z1 : PolV wz vp d.p) (z2 : CkV wz vc d.cur.ck) (z3 : CgV wz vg g) => pcgverify_any vp vc vg d.p d.cur.ck g hp hr hs wz z1 z2 z3)
 have HKP := Lib.hid (fun (wz : World) (v : Value) (z1 : FdOk Z wz f d r us es) (z2 : CgV wz v g) (z3 : ∀ g, Z g → g < wz.heap.size) => keep_any Z f d r us es v g k hs hkl hkk hm wz z1 z2 z3)
 generalize hKD : keepD d k g = KD at *
 obtain ⟨p1, q1, rfl, h1, h2⟩ := hv
 obtain ⟨P, cp, rfl⟩ := h1.form
 obtain ⟨Q, cq, rfl⟩ := h2.form
 obtain ⟨PA, pc, hpl⟩ := hok.tx.pl.1.form
 obtain ⟨PW, pwc, hpw⟩ := hok.tx.pw.rws.form
 obtain ⟨RA, rc, hcr⟩ := hok.tx.cr.1.form
 have HPL := Lib.hid (And.intro hpl (And.intro hpw hcr))
 have HX := Lib.hid (And.intro h1 h2)
 clear h1 h2 hp hr hs hyes hZ hpl hpw hcr hKD hkk hm hgw
 have hb0 := (Below.refl w.heap.size w).alloc (Nat.le_refl _) (.cells #[.int .i64 g.wit, .int .i64 g.sig.index, .slice P g.sig.parts.length cp, .slice Q g.sig.path.length cq] 47)
 have hk0 := Blk.new w 47 [.int .i64 g.wit, .int .i64 g.sig.index, .slice P g.sig.parts.length cp, .slice Q g.sig.path.length cq]
 have hok1 := hok.below hb0
 have H1 := Lib.hid (And.intro hk0 (And.intro hb0 hok1))
 have f11 := hok1.blk.cell 11 _ rfl
 have f5 := cell5 hok1.blk
 have hfl := hok1.blk.lt
 have hfw := hok.blk.lt
 have HOK := Lib.hid hok
 rw [hhas] at f11
 have hc := cellsW_at d.l k hkl
 have p2 := H1.out.2.2.wt.cell _ _ hc.2.2
 rw [← wAt_eq d.l k hkl, hke] at p2
 have hlb := H1.out.2.2.wt.lt
 have hki : (k : Int) < (d.l.length : Int) := by omega
 clear hc hok hok1 hb0 hk0 hhas hke
 go_enter Tryz.func12, Tryz.ntmps12
 go_wp2
 refine code_at (fun w1 => Blk w1 w.heap.size 47 [.int .i64 g.wit, .int .i64 g.sig.index, .slice P g.sig.parts.length cp, .slice Q g.sig.path.length cq] ∧ Below w.heap.size w w1 ∧ FdOk Z w1 f d r us es) H1.out ?_
 rintro w1 ⟨k0, kb, kd⟩
 have c0 := k0.cell 0 _ rfl
 have c1 := k0.cell 1 _ rfl
 have c2 := k0.cell 2 _ rfl
 have c3 := k0.cell 3 _ rfl
 have g0 : w1.cell? ⟨f, 0, none⟩ = some (.slice PA d.p.log.length pc) := by rw [← HPL.out.1]; exact kd.blk.cell 0 _ rfl
 have g1 : w1.cell? ⟨f, 1, none⟩ = some (.slice PW d.p.wits.length pwc) := by rw [← HPL.out.2.1]; exact kd.blk.cell 1 _ rfl
 have g2 : w1.cell? ⟨f, 2, none⟩ = some (.int .i64 d.p.quorum) := kd.blk.cell 2 _ rfl
 have g6 : w1.cell? ⟨f, 6, none⟩ = some (.int .i64 d.cur.ck.num) := kd.blk.cell 6 _ rfl
 have g7 : w1.cell? ⟨f, 7, none⟩ = some (.slice RA d.cur.ck.root.length rc) := by rw [← HPL.out.2.2]; exact kd.blk.cell 7 _ rfl
 have hfl1 := kd.blk.lt
 have hkl1 := k0.lt
 have H2 := Lib.hid (And.intro k0 (And.intro kb kd))
 clear k0 kb kd f11 f5 p2 hlb hfl hfw
 rw [HGW.out] at c0
 refine wp_region_held_drew (S := fun w' => w'.cell? ⟨w.heap.size, 0, none⟩ = some (.int .i64 k) ∧ w'.cell? ⟨w.heap.size, 1, none⟩ = some (.int .i64 g.sig.index) ∧ w'.cell? ⟨w.heap.size, 2, none⟩ = some (.slice P g.sig.parts.length cp) ∧ w'.cell? ⟨w.heap.size, 3, none⟩ = some (.slice Q g.sig.path.length cq) ∧ w'.cell? ⟨f, 0, none⟩ = some (.slice PA d.p.log.length pc) ∧ w'.cell? ⟨f, 1, none⟩ = some (.slice PW d.p.wits.length pwc) ∧ w'.cell? ⟨f, 2, none⟩ = some (.int .i64 d.p.quorum) ∧ w'.cell? ⟨f, 6, none⟩ = some (.int .i64 d.cur.ck.num) ∧ w'.cell? ⟨f, 7, none⟩ = some (.slice RA d.cur.ck.root.length rc)) (by kernel_rfl) ?_ (fun hHeld => ?_)
 ·exact ⟨c0, c1, c2, c3, g0, g1, g2, g6, g7⟩
 refine ty 0 40 rfl rfl ?_; simp only [sa, sb, sc]
 refine ty 1 41 rfl rfl ?_; simp only [sa, sb, sc]
 refine ty 2 42 rfl rfl ?_; simp only [sa, sb, sc]
 refine ty 3 43 rfl rfl ?_; simp only [sa, sb, sc]
 refine ty 4 44 rfl rfl ?_; simp only [sa, sb, sc]
 refine ty 5 45 rfl rfl ?_; simp only [sa, sb, sc]
 refine ty 6 46 rfl rfl ?_; simp only [sa, sb, sc]
 refine ty 7 47 rfl rfl ?_; simp only [sa, sb, sc]
 refine ty 8 48 rfl rfl ?_; simp only [sa, sb, sc]
 refine ty 9 49 rfl rfl ?_; simp only [sa, sb, sc]
 refine ty 10 50 rfl rfl ?_; simp only [sa, sb, sc]
 refine ty 11 51 rfl rfl ?_; simp only [sa, sb, sc]
 refine ty 12 52 rfl rfl ?_; simp only [sa, sb, sc]
 refine ty 13 53 rfl rfl ?_; simp only [sa, sb, sc]
 refine ty 14 54 rfl rfl ?_; simp only [sa, sb, sc]
 refine rd 15 (by kernel_rfl) rfl (fun K hK => ?_)
 go_simp
 go_at_call 30
 refine (HVF.out w1.drew _ _ _ ⟨_, _, rfl, by rw [← HPL.out.1]; exact H2.out.2.2.tx.pl.1.below (Below.refl _ _).drew, by rw [← HPL.out.2.1]; exact H2.out.2.2.tx.pw.rws.below (Below.refl _ _).drew⟩ ⟨_, rfl, by rw [← HPL.out.2.2]; exact H2.out.2.2.tx.cr.1.below (Below.refl _ _).drew⟩ ⟨_, _, by rw [HGW.out], HX.out.1.below H2.out.2.1.drew, HX.out.2.below H2.out.2.1.drew⟩).mono ?_
 rw [HYES.out]
 rintro e w2 ⟨rfl, h2'⟩
 have h2 : Below w1.heap.size w1 w2 := ⟨h2'.os, h2'.tape, h2'.output, h2'.size, h2'.block⟩
 have kA := H2.out.1.below h2
 have kF := H2.out.2.2.blk.below h2
 have j0 := kA.cell 0 _ rfl
 rw [HGW.out] at j0
 have j1 := kA.cell 1 _ rfl
 have j2 := kA.cell 2 _ rfl
 have j3 := kA.cell 3 _ rfl
 have i0 : w2.cell? ⟨f, 0, none⟩ = some (.slice PA d.p.log.length pc) := by rw [← HPL.out.1]; exact kF.cell 0 _ rfl
 have i1 : w2.cell? ⟨f, 1, none⟩ = some (.slice PW d.p.wits.length pwc) := by rw [← HPL.out.2.1]; exact kF.cell 1 _ rfl
 have i2 : w2.cell? ⟨f, 2, none⟩ = some (.int .i64 d.p.quorum) := kF.cell 2 _ rfl
 have i6 : w2.cell? ⟨f, 6, none⟩ = some (.int .i64 d.cur.ck.num) := kF.cell 6 _ rfl
 have i7 : w2.cell? ⟨f, 7, none⟩ = some (.slice RA d.cur.ck.root.length rc) := by rw [← HPL.out.2.2]; exact kF.cell 7 _ rfl
 have hkl2 := kA.lt
 have H3 := Lib.hid (And.intro h2 (And.intro kA (H2.out.2.2.below h2)))
 clear h2 h2' kA kF
 go_wp2_with fail
 refine hK.out _ _ ⟨j0, j1, j2, j3, i0, i1, i2, i6, i7⟩ (fun hHeld15 => ?_)
 clear hK K; try simp only [Act.put, sa, sb, sc]
 refine ty 16 56 rfl rfl ?_; simp only [sa, sb, sc]
 refine wpAnyH_done (by kernel_rfl) ?_ _
 clear hHeld hHeld15 c0 c1 c2 c3 g0 g1 g2 g6 g7 i0 i1 i2 i6 i7
 go_wp2_with fail
 refine (HKP.out _ _ H3.out.2.2 ⟨_, _, by rw [HGW.out], (HX.out.1.below H2.out.2.1).below H3.out.1, (HX.out.2.below H2.out.2.1).below H3.out.1⟩ (fun g hg => by have := HZ.out g hg; have := H2.out.2.1.size; have := H3.out.1.size; omega)).mono ?_
 rintro e w4 ⟨rfl, h1, h2⟩
 have H4 := Lib.hid (And.intro h1 h2)
 clear h1 h2
 go_wp2
 go_ret
 have hs1 := H2.out.2.1.size
 have hs2 := H3.out.1.size
 obtain ⟨r4, us4, es4, h9⟩ := H4.out.1
 refine ⟨rfl, ⟨r4, us4, es4, h9.wide (fun x hx => by
  rcases hx with hx | hx
  ·exact .inl hx
  ·exact .inr ⟨by have : w2.heap.size ≤ x := hx.1; omega, hx.2⟩)⟩, ?_⟩
 have c1 : Chg w w2 Z := ((Chg.refl w Z).trans (Chg.of_below (S := fun _ => False) H2.out.2.1) (fun _ _ h => h.elim)).trans (Chg.of_below (S := fun _ => False) H3.out.1) (fun _ _ h => h.elim)
 exact c1.trans H4.out.2 (fun x _ e => e)
def hearB (d : FdD) (wit : Int) (g : CgD) : Bool := d.has && (decide (0 ≤ wit) && (decide (wit < (d.l.length : Int)) && (!(wAt d.l wit.toNat).kept && (decide (g.wit = wit) && cgVerB d.p d.cur.ck g))))
def anyRB (d : FdD) (wit : Int) (g : CgD) (size : Int) : Bool := hearB d wit g || repB d wit size
def anyRN (d : FdD) (wit : Int) (g : CgD) (size now : Int) : FdD := if hearB d wit g = true then keepD d wit.toNat g else repN d wit size now
theorem reply_any (Z : Nat → Prop) (f : Nat) (d : FdD) (v : Value) (g : CgD) (wit size now : Int) (hp : SmallPol d.p) (hr : d.cur.ck.root.length ≤ 100000000) (hs : SmallSig g.sig) (hkk : d.kept.length ≤ 1000) (hm : d.m.length ≤ 1000000) (ho : d.ord ≤ 100000000) (hl : d.l.length ≤ 1000) (w : World) (hok : FdAt Z w f d) (hv : CgV w v g) (hZ : ∀ g, Z g → g < w.heap.size) :
  Calls Tryz.prog 12 #[.pointer (some ⟨f, 0, none⟩), .int .i64 wit, v, .int .i64 size, .int .i64 now] w fun e w' => e = .returned (.bool (anyRB d wit g size)) ∧ FdAt (Wide Z w w') w' f (anyRN d wit g size now) ∧ Chg w w' Z := by
 obtain ⟨r, us, es, hok⟩ := hok
 unfold anyRB anyRN
 cases hh : hearB d wit g with
 | true =>
  have h9 := hh
  simp only [hearB, Bool.and_eq_true, decide_eq_true_eq, Bool.not_eq_true'] at h9
  obtain ⟨a1, a2, a3, a4, a5, a6⟩ := h9
  obtain ⟨k, rfl⟩ := Int.eq_ofNat_of_zero_le a2
  rw [Int.toNat_natCast] at a4 ⊢
  exact reply_kv Z f d r us es v g k size now hp hr hs w hok hv a5 a1 (by omega) a4 a6 hkk hm hl hZ
 | false =>
  refine (reply_nv Z f d r us es v g wit size now hp hr hs w hok hv (fun b1 b2 b3 b4 b5 => ?_) hm ho hl hZ).mono (fun e w' h => h)
  cases hc : cgVerB d.p d.cur.ck g with
  | false => rfl
  | true =>
   have : hearB d wit g = true := by
    unfold hearB
    rw [b1, decide_eq_true b2, decide_eq_true b3, b4, decide_eq_true b5, hc]
    rfl
   rw [this] at hh
   exact absurd hh (by decide)
def sh (x : Ent) : Int × Int := (x.tm, x.wh)
def SrtT (m : List Ent) : Prop := m.Pairwise (fun a b => a.tm ≤ b.tm)
theorem Srt.tm {m : List Ent} {ord : Int} (h : Srt m ord) : SrtT m := h.1.imp (fun {a b} hab => by unfold Ent.bef at hab; omega)
theorem posP_cons (y : Int × Int) (l : List (Int × Int)) (a : Int) : ∀ k, posP (y :: l) a (k + 1) = if posP l a k = 0 then (if a < y.1 then 0 else 1) else posP l a k + 1
 | 0 => by
  show (if a < ((y :: l).getD 0 (0, 0)).1 then posP (y :: l) a 0 else 0 + 1) = _
  rfl
 | k + 1 => by
  have ih := posP_cons y l a k
  show (if a < ((y :: l).getD (k + 1) (0, 0)).1 then posP (y :: l) a (k + 1) else k + 1 + 1) = _
  have e : posP l a (k + 1) = if a < (l.getD k (0, 0)).1 then posP l a k else k + 1 := rfl
  have e2 : (y :: l).getD (k + 1) (0, 0) = l.getD k (0, 0) := rfl
  rw [e2, e]
  by_cases h : a < (l.getD k (0, 0)).1
  ·rw [if_pos h, if_pos h]; exact ih
  ·rw [if_neg h, if_neg h, if_neg (by omega)]
theorem posP_zero (l : List (Int × Int)) (a : Int) (h : ∀ z ∈ l, a < z.1) : ∀ k, k ≤ l.length → posP l a k = 0
 | 0, _ => rfl
 | k + 1, hk => by
  have e : posP l a (k + 1) = if a < (l.getD k (0, 0)).1 then posP l a k else k + 1 := rfl
  have hg : a < (l.getD k (0, 0)).1 := by
   rw [List.getD_eq_getElem?_getD, List.getElem?_eq_getElem (by omega)]
   exact h _ (List.getElem_mem _)
  rw [e, if_pos hg]
  exact posP_zero l a h k (by omega)
theorem insP_cons_le (a wh : Int) (y : Int × Int) (l : List (Int × Int)) (h : ¬ a < y.1) : insP a wh (y :: l) = y :: insP a wh l := by
 unfold insP
 rw [List.length_cons, posP_cons]
 by_cases h0 : posP l a l.length = 0
 ·rw [if_pos h0, if_neg h, h0]; rfl
 ·rw [if_neg h0]; rfl
theorem insP_cons_lt (a wh : Int) (y : Int × Int) (l : List (Int × Int)) (h : a < y.1) (hl : ∀ z ∈ l, a < z.1) : insP a wh (y :: l) = (a, wh) :: y :: l := by
 unfold insP
 rw [List.length_cons, posP_cons, if_pos (posP_zero l a hl _ (Nat.le_refl _)), if_pos h]
 rfl
theorem insE_le {x y : Ent} {m : List Ent} (h : y.tm ≤ x.tm) : insE x (y :: m) = y :: insE x m := if_pos h
theorem insE_gt {x y : Ent} {m : List Ent} (h : ¬ y.tm ≤ x.tm) : insE x (y :: m) = x :: y :: m := if_neg h
theorem insE_sh (x : Ent) : ∀ (m : List Ent), SrtT m → (insE x m).map sh = insP x.tm x.wh (m.map sh)
 | [], _ => rfl
 | y :: m, hs => by
  unfold SrtT at hs
  rw [List.pairwise_cons] at hs
  unfold insE
  by_cases h : y.tm ≤ x.tm
  ·rw [if_pos h, List.map_cons, List.map_cons, insP_cons_le _ _ _ _ (by show ¬ x.tm < y.tm; omega), insE_sh x m hs.2]
  ·rw [if_neg h, List.map_cons, List.map_cons, insP_cons_lt _ _ _ _ (by show x.tm < y.tm; omega) (fun z hz => by
    obtain ⟨e, he, rfl⟩ := List.mem_map.1 hz
    have := hs.1 e he
    show x.tm < e.tm
    omega)]
   rfl
theorem keepW_sh (k : Int) (m : List Ent) : (keepW k m).map sh = canP k (m.map sh) := by
 unfold keepW canP
 rw [List.filter_map]
 rfl
theorem insE_srtT (x : Ent) : ∀ (m : List Ent), SrtT m → SrtT (insE x m)
 | [], _ => List.pairwise_singleton _ _
 | y :: m, hs => by
  have hs' := hs
  unfold SrtT at hs
  rw [List.pairwise_cons] at hs
  unfold insE
  by_cases h : y.tm ≤ x.tm
  ·rw [if_pos h]
   refine List.pairwise_cons.2 ⟨fun z hz => ?_, insE_srtT x m hs.2⟩
   rcases insE_mem hz with rfl | hz
   ·exact h
   ·exact hs.1 z hz
  ·rw [if_neg h]
   refine List.pairwise_cons.2 ⟨fun z hz => ?_, hs'⟩
   rcases List.mem_cons.1 hz with rfl | hz
   ·omega
   ·have := hs.1 z hz; omega
theorem SrtT.sub {m n : List Ent} (h : SrtT m) (hs : n.Sublist m) : SrtT n := List.Pairwise.sublist hs h
theorem keepW_sub (k : Int) (m : List Ent) : (keepW k m).Sublist m := List.filter_sublist
theorem insE_filter (p : Ent → Bool) (x : Ent) (hx : p x = true) : ∀ (m : List Ent), SrtT m → (insE x m).filter p = insE x (m.filter p)
 | [], _ => by simp [insE, hx]
 | y :: m, hs => by
  unfold SrtT at hs
  rw [List.pairwise_cons] at hs
  have ih := insE_filter p x hx m hs.2
  by_cases h : y.tm ≤ x.tm
  ·rw [insE_le h]
   by_cases hy : p y = true
   ·rw [List.filter_cons_of_pos hy, List.filter_cons_of_pos hy, ih]
    rw [insE_le h]
   ·rw [List.filter_cons_of_neg hy, List.filter_cons_of_neg hy, ih]
  ·rw [insE_gt h, List.filter_cons_of_pos hx]
   have hl : ∀ z ∈ (y :: m).filter p, ¬ z.tm ≤ x.tm := fun z hz => by
    have hz := (List.mem_filter.1 hz).1
    rcases List.mem_cons.1 hz with rfl | hz
    ·exact h
    ·have := hs.1 z hz; omega
   cases hc : (y :: m).filter p with
   | nil => rfl
   | cons z l =>
    have := hl z (by rw [hc]; exact List.mem_cons_self)
    exact (if_neg this).symm
theorem due_sh (m : List Ent) (now : Int) : (m.map sh).takeWhile (fun x => decide (x.1 ≤ now)) = (dueL m now).map sh := by
 unfold dueL
 rw [List.takeWhile_map]
 rfl
theorem mdueN_sh (m : List Ent) (now : Int) : mdueN (m.map sh) now = dueN m now := by
 unfold mdueN dueN
 rw [due_sh, List.length_map]
theorem mwho_sh (m : List Ent) (now : Int) : mwho (m.map sh) now = (dueL m now).map (fun x => x.wh) := by
 unfold mwho
 rw [due_sh, List.map_map]
 rfl
theorem offM_srtT {m : List Ent} (ord now : Int) (hs : SrtT m) : ∀ i, SrtT (offM m ord now i)
 | 0 => hs
 | i + 1 => insE_srtT _ _ ((offM_srtT ord now hs i).sub (keepW_sub _ _))
theorem offM_parts (m : List Ent) (ord now : Int) (hs : SrtT m) (ho : ∀ e ∈ m, e.ord < ord) : ∀ i : Nat,
  ((offM m ord now i).filter (fun e => decide (ord ≤ e.ord))).map sh = offP now i ∧ (∀ e ∈ offM m ord now i, (e ∈ m ∧ (i : Int) ≤ e.wh) ∨ (e ∈ m ∧ e.wh < 0) ∨ (ord ≤ e.ord ∧ e.ord < ord + (i : Int) ∧ 0 ≤ e.wh ∧ e.wh < (i : Int)))
 | 0 => by
  refine ⟨?_, fun e he => ?_⟩
  ·have e : (offM m ord now 0).filter (fun e => decide (ord ≤ e.ord)) = [] := by
    rw [List.filter_eq_nil_iff]
    intro e he
    have := ho e he
    simp
    omega
   rw [e]; rfl
  ·by_cases h : 0 ≤ e.wh
   ·exact .inl ⟨he, h⟩
   ·exact .inr (.inl ⟨he, by omega⟩)
 | i + 1 => by
  obtain ⟨h1, h2⟩ := offM_parts m ord now hs ho i
  have hsi := offM_srtT ord now hs i
  have ek : (keepW (i : Int) (offM m ord now i)).filter (fun e => decide (ord ≤ e.ord)) = (offM m ord now i).filter (fun e => decide (ord ≤ e.ord)) := by
   unfold keepW
   rw [List.filter_filter]
   refine List.filter_congr (fun e he => ?_)
   by_cases ho2 : ord ≤ e.ord
   ·rcases h2 e he with h | h | h
    ·have := ho e h.1; omega
    ·have := ho e h.1; omega
    ·have hne : (e.wh != (i : Int)) = true := by simp; omega
     rw [hne, Bool.and_true]
   ·rw [decide_eq_false ho2, Bool.false_and]
  refine ⟨?_, fun e he => ?_⟩
  ·show ((insE ⟨now, ordN ord i, (i : Int)⟩ (keepW (i : Int) (offM m ord now i))).filter _).map sh = insP now (i : Int) (offP now i)
   rw [insE_filter _ _ (decide_eq_true (by show ord ≤ ordN ord i; rw [ordN_eq]; omega)) _ (hsi.sub (keepW_sub _ _)), ek, insE_sh _ _ (hsi.sub List.filter_sublist), h1]
  ·rcases insE_mem he with rfl | he
   ·refine .inr (.inr ?_)
    show ord ≤ ordN ord i ∧ ordN ord i < ord + ((i + 1 : Nat) : Int) ∧ (0 : Int) ≤ (i : Int) ∧ (i : Int) < ((i + 1 : Nat) : Int)
    rw [ordN_eq]
    omega
   ·obtain ⟨he, hk⟩ := List.mem_filter.1 he
    have hk : e.wh ≠ (i : Int) := by simpa using hk
    rcases h2 e he with h | h | h
    ·exact .inl ⟨h.1, by omega⟩
    ·exact .inr (.inl h)
    ·exact .inr (.inr ⟨h.1, by omega, h.2.2.1, by omega⟩)
theorem offM_sh (m : List Ent) (ord now : Int) (hs : SrtT m) (ho : ∀ e ∈ m, e.ord < ord) (n : Nat) (hw : ∀ e ∈ m, 0 ≤ e.wh ∧ e.wh < (n : Int)) : (offM m ord now n).map sh = offP now n := by
 obtain ⟨h1, h2⟩ := offM_parts m ord now hs ho n
 rw [← h1]
 congr 1
 rw [eq_comm, List.filter_eq_self]
 intro e he
 rcases h2 e he with h | h | h
 ·have := hw e h.1; omega
 ·have := hw e h.1; omega
 ·simpa using h.1
end Go.Proofs.YtlkgeifmppadmaaGreat
