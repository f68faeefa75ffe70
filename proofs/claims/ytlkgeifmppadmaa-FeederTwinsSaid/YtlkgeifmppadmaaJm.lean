/- The feeder's Reply, where no cosignature is kept. The law's requests: two rows that show the same. Two feeders beside each other, as the laws meet them. Conditions: as each theorem states them. -/
import Derived.Test.YtlkgeifmppadmaaJl
import Derived.Test.YtlkgeifmppadmaaJj
namespace Go.Proofs.Ytlkgeifmppadmaa
open Go.RowKit
set_option linter.unusedVariables false
set_option linter.unusedSimpArgs false

/-- Is a witness's size taken? -/
def repB (d : FdD) (wit size : Int) : Bool := d.has && (decide (0 ≤ wit) && (decide (wit < (d.l.length : Int)) && (!(wAt d.l wit.toNat).kept && (decide (0 ≤ size) && (decide (size ≤ d.cur.ck.num) && !decide (size = (wAt d.l wit.toNat).size))))))
def repD (d : FdD) (k : Nat) (size now : Int) : FdD := { d with m := insE ⟨now, d.ord, (k : Int)⟩ (keepW (k : Int) d.m), ord := d.ord + 1, l := d.l.set k ⟨size, (wAt d.l k).tries, (wAt d.l k).kept⟩ }
def repN (d : FdD) (wit size now : Int) : FdD := if repB d wit size = true then repD d wit.toNat size now else d
def RepPost (Z : Nat → Prop) (w : World) (f : Nat) (d : FdD) (wit size now : Int) (e : Ending) (w' : World) : Prop := e = .returned (.bool (repB d wit size)) ∧ FdAt (Wide Z w w') w' f (repN d wit size now) ∧ Chg w w' Z
theorem rep_no {Z : Nat → Prop} {w w' : World} {f : Nat} {d : FdD} {r : FdR} {us es : List Value} {wit size now : Int} (hok : FdOk Z w f d r us es) (hb : Below w.heap.size w w') (h : repB d wit size = false) : RepPost Z w f d wit size now (.returned (.bool false)) w' := by
  refine ⟨by rw [h], ?_, (Chg.refl w Z).trans (Chg.of_below (S := fun _ => False) hb) (fun _ _ h => h.elim)⟩
  unfold repN
  rw [h, if_neg (by decide)]
  exact ⟨r, us, es, (hok.below hb).wide (fun g hg => .inl hg)⟩
theorem cellsW_size (L : List WtD) (k : Nat) (z : Int) (h : k < L.length) : cellsW (L.set k ⟨z, (wAt L k).tries, (wAt L k).kept⟩) = (cellsW L).set (k * 3) (.int .i64 z) := by
  rw [cellsW_set L k _ h, wAt_eq L k h]
  obtain ⟨h0, h1, h2⟩ := cellsW_at L k h
  obtain ⟨hl1, e1⟩ := List.getElem?_eq_some_iff.1 h1
  obtain ⟨hl2, e2⟩ := List.getElem?_eq_some_iff.1 h2
  apply List.ext_getElem?
  intro j
  simp only [List.getElem?_set]
  by_cases j2 : k * 3 + 2 = j
  · subst j2; simp [hl2, e2]
  · by_cases j1 : k * 3 + 1 = j
    · subst j1; simp [hl1, e1]
    · simp [j1, j2]
set_option maxRecDepth 100000 in
set_option maxHeartbeats 8000000 in
theorem reply_nv (Z : Nat → Prop) (f : Nat) (d : FdD) (r : FdR) (us es : List Value) (v : Value) (g : CgD) (wit size now : Int) (hp : SmallPol d.p) (hr : d.cur.ck.root.length ≤ 100000000) (hs : SmallSig g.sig) (w : World) (hok : FdOk Z w f d r us es) (hv : CgV w v g) (hno : g.wit = wit → cgVerB d.p d.cur.ck g = false) (hm : d.m.length ≤ 1000000) (ho : d.ord ≤ 100000000) (hl : d.l.length ≤ 1000) (hZ : ∀ g, Z g → g < w.heap.size) :
    Calls Try.prog 18 #[.pointer (some ⟨f, 0, none⟩), .int .i64 wit, v, .int .i64 size, .int .i64 now] w (RepPost Z w f d wit size now) := by
  have HZ := Lib.hid hZ
  have HNO := Lib.hid hno
  have HVF := Lib.hid (fun (wz : World) (vp vc vg : Value) (z1 : PolV wz vp d.p) (z2 : CkV wz vc d.cur.ck) (z3 : CgV wz vg g) => pcgverify_any vp vc vg d.p d.cur.ck g hp hr hs wz z1 z2 z3)
  obtain ⟨p1, q1, rfl, h1, h2⟩ := hv
  obtain ⟨P, cp, rfl⟩ := h1.form
  obtain ⟨Q, cq, rfl⟩ := h2.form
  obtain ⟨PA, pc, hpl⟩ := hok.tx.pl.1.form
  obtain ⟨PW, pwc, hpw⟩ := hok.tx.pw.rws.form
  obtain ⟨RA, rc, hcr⟩ := hok.tx.cr.1.form
  have HPL := Lib.hid (And.intro hpl (And.intro hpw hcr))
  have HX := Lib.hid (And.intro h1 h2)
  have HREP : Hid (repB d wit size = (d.has && (decide (0 ≤ wit) && (decide (wit < (d.l.length : Int)) && (!(wAt d.l wit.toNat).kept && (decide (0 ≤ size) && (decide (size ≤ d.cur.ck.num) && !decide (size = (wAt d.l wit.toNat).size)))))))) := Lib.hid rfl
  have HNOT := Lib.hid (fun (w' : World) (hb : Below w.heap.size w w') (h : repB d wit size = false) => rep_no (now := now) hok hb h)
  clear h1 h2 hp hr hs hno hZ hpl hpw hcr
  have hb0 := (Below.refl w.heap.size w).alloc (Nat.le_refl _) (.cells #[.int .i64 g.wit, .int .i64 g.sig.index, .slice P g.sig.parts.length cp, .slice Q g.sig.path.length cq] 58)
  have hk0 := Blk.new w 58 [.int .i64 g.wit, .int .i64 g.sig.index, .slice P g.sig.parts.length cp, .slice Q g.sig.path.length cq]
  have hok1 := hok.below hb0
  have H1 := Lib.hid (And.intro hk0 (And.intro hb0 hok1))
  have f11 := hok1.blk.cell 11 _ rfl
  have f5 := cell5 hok1.blk
  have hfl := hok1.blk.lt
  have hfw := hok.blk.lt
  have HOK := Lib.hid hok
  generalize hHA : d.has = HA at *
  have HHA := Lib.hid hHA
  clear hHA hok hok1 hb0 hk0
  go_enter Try.func18, Try.ntmps18
  cases HA with
  | false =>
    have HF : Hid (repB d wit size = false) := Lib.hid (by rw [HREP.out]; rfl)
    go_wp2
    go_ret
    exact HNOT.out _ H1.out.2.1 HF.out
  | true =>
    by_cases h0 : 0 ≤ wit
    · by_cases h1 : wit < (d.l.length : Int)
      · obtain ⟨k, rfl⟩ := Int.eq_ofNat_of_zero_le h0
        have hkl : k < d.l.length := by omega
        rw [Int.toNat_natCast, Bool.true_and, decide_eq_true h0, Bool.true_and, decide_eq_true h1, Bool.true_and] at HREP
        have hc := cellsW_at d.l k hkl
        have p2 := H1.out.2.2.wt.cell _ _ hc.2.2
        have p0 := H1.out.2.2.wt.cell _ _ hc.1
        rw [← wAt_eq d.l k hkl] at p2 p0
        have hlb := H1.out.2.2.wt.lt
        clear hc
        generalize hKE : (wAt d.l k).kept = KE at *
        have HKE := Lib.hid hKE
        clear hKE
        cases KE with
        | true =>
          have HF : Hid (repB d k size = false) := Lib.hid (by rw [HREP.out]; rfl)
          go_wp2
          go_ret
          exact HNOT.out _ H1.out.2.1 HF.out
        | false =>
          rw [Bool.not_false, Bool.true_and] at HREP
          have hx := (wAt d.l k).size
          clear hx
          go_wp2
          refine code_at (fun w1 => Blk w1 w.heap.size 58 [.int .i64 g.wit, .int .i64 g.sig.index, .slice P g.sig.parts.length cp, .slice Q g.sig.path.length cq] ∧ Below w.heap.size w w1 ∧ FdOk Z w1 f d r us es) H1.out ?_
          rintro w1 ⟨k0, kb, kd⟩
          have c0 := k0.cell 0 _ rfl
          have c1 := k0.cell 1 _ rfl
          have c2 := k0.cell 2 _ rfl
          have c3 := k0.cell 3 _ rfl
          have g0 : w1.cell? ⟨f, 0, none⟩ = some (.slice PA d.p.log.length pc) := by rw [← HPL.out.1]; exact kd.blk.cell 0 _ rfl
          have g1 : w1.cell? ⟨f, 1, none⟩ = some (.slice PW d.p.wits.length pwc) := by rw [← HPL.out.2.1]; exact kd.blk.cell 1 _ rfl
          have g2 : w1.cell? ⟨f, 2, none⟩ = some (.int .i64 d.p.quorum) := kd.blk.cell 2 _ rfl
          have g6 : w1.cell? ⟨f, 6, none⟩ = some (.int .i64 d.cur.ck.num) := kd.blk.cell 6 _ rfl
          have g7 : w1.cell? ⟨f, 7, none⟩ = some (.slice RA d.cur.ck.root.length rc) := by rw [← HPL.out.2.2]; exact kd.blk.cell 7 _ rfl
          have hfl1 := kd.blk.lt
          have hkl1 := k0.lt
          have H2 := Lib.hid (And.intro k0 (And.intro kb kd))
          clear k0 kb kd f11 f5 p2 p0 hlb hfl hfw
          by_cases hgw : g.wit = (k : Int)
          · have HNV := Lib.hid (HNO.out hgw)
            rw [hgw] at c0
            refine wp_region_held_drew (S := fun w' => w'.cell? ⟨w.heap.size, 0, none⟩ = some (.int .i64 k) ∧ w'.cell? ⟨w.heap.size, 1, none⟩ = some (.int .i64 g.sig.index) ∧ w'.cell? ⟨w.heap.size, 2, none⟩ = some (.slice P g.sig.parts.length cp) ∧ w'.cell? ⟨w.heap.size, 3, none⟩ = some (.slice Q g.sig.path.length cq) ∧ w'.cell? ⟨f, 0, none⟩ = some (.slice PA d.p.log.length pc) ∧ w'.cell? ⟨f, 1, none⟩ = some (.slice PW d.p.wits.length pwc) ∧ w'.cell? ⟨f, 2, none⟩ = some (.int .i64 d.p.quorum) ∧ w'.cell? ⟨f, 6, none⟩ = some (.int .i64 d.cur.ck.num) ∧ w'.cell? ⟨f, 7, none⟩ = some (.slice RA d.cur.ck.root.length rc)) (by kernel_rfl) ?_ (fun hHeld => ?_)
            · exact ⟨c0, c1, c2, c3, g0, g1, g2, g6, g7⟩
            refine take_yes 0 40 rfl rfl (by kernel_rfl) (by kernel_rfl) (by kernel_rfl) (fun _ _ _ h => h) (by assumption) (by rfl) (v := ?_) ?_ ?_
            rotate_left 1
            · (intro w hSw; (try dsimp only at hSw); go_simp; try with_reducible rfl)
            simp only [List.setIfInBounds_toArray, List.set_cons_zero, List.set_cons_succ]
            refine take_yes 1 41 rfl rfl (by kernel_rfl) (by kernel_rfl) (by kernel_rfl) (fun _ _ _ h => h) (by assumption) (by rfl) (v := ?_) ?_ ?_
            rotate_left 1
            · (intro w hSw; (try dsimp only at hSw); go_simp; try with_reducible rfl)
            simp only [List.setIfInBounds_toArray, List.set_cons_zero, List.set_cons_succ]
            refine take_yes 2 42 rfl rfl (by kernel_rfl) (by kernel_rfl) (by kernel_rfl) (fun _ _ _ h => h) (by assumption) (by rfl) (v := ?_) ?_ ?_
            rotate_left 1
            · (intro w hSw; (try dsimp only at hSw); go_simp; try with_reducible rfl)
            simp only [List.setIfInBounds_toArray, List.set_cons_zero, List.set_cons_succ]
            refine take_yes 3 43 rfl rfl (by kernel_rfl) (by kernel_rfl) (by kernel_rfl) (fun _ _ _ h => h) (by assumption) (by rfl) (v := ?_) ?_ ?_
            rotate_left 1
            · (intro w hSw; (try dsimp only at hSw); go_simp; try with_reducible rfl)
            simp only [List.setIfInBounds_toArray, List.set_cons_zero, List.set_cons_succ]
            refine take_yes 4 44 rfl rfl (by kernel_rfl) (by kernel_rfl) (by kernel_rfl) (fun _ _ _ h => h) (by assumption) (by rfl) (v := ?_) ?_ ?_
            rotate_left 1
            · (intro w hSw; (try dsimp only at hSw); go_simp; try with_reducible rfl)
            simp only [List.setIfInBounds_toArray, List.set_cons_zero, List.set_cons_succ]
            refine take_yes 5 45 rfl rfl (by kernel_rfl) (by kernel_rfl) (by kernel_rfl) (fun _ _ _ h => h) (by assumption) (by rfl) (v := ?_) ?_ ?_
            rotate_left 1
            · (intro w hSw; (try dsimp only at hSw); go_simp; try with_reducible rfl)
            simp only [List.setIfInBounds_toArray, List.set_cons_zero, List.set_cons_succ]
            refine take_yes 6 46 rfl rfl (by kernel_rfl) (by kernel_rfl) (by kernel_rfl) (fun _ _ _ h => h) (by assumption) (by rfl) (v := ?_) ?_ ?_
            rotate_left 1
            · (intro w hSw; (try dsimp only at hSw); go_simp; try with_reducible rfl)
            simp only [List.setIfInBounds_toArray, List.set_cons_zero, List.set_cons_succ]
            refine take_yes 7 47 rfl rfl (by kernel_rfl) (by kernel_rfl) (by kernel_rfl) (fun _ _ _ h => h) (by assumption) (by rfl) (v := ?_) ?_ ?_
            rotate_left 1
            · (intro w hSw; (try dsimp only at hSw); go_simp; try with_reducible rfl)
            simp only [List.setIfInBounds_toArray, List.set_cons_zero, List.set_cons_succ]
            refine take_yes 8 48 rfl rfl (by kernel_rfl) (by kernel_rfl) (by kernel_rfl) (fun _ _ _ h => h) (by assumption) (by rfl) (v := ?_) ?_ ?_
            rotate_left 1
            · (intro w hSw; (try dsimp only at hSw); go_simp; try with_reducible rfl)
            simp only [List.setIfInBounds_toArray, List.set_cons_zero, List.set_cons_succ]
            refine take_yes 9 49 rfl rfl (by kernel_rfl) (by kernel_rfl) (by kernel_rfl) (fun _ _ _ h => h) (by assumption) (by rfl) (v := ?_) ?_ ?_
            rotate_left 1
            · (intro w hSw; (try dsimp only at hSw); go_simp; try with_reducible rfl)
            simp only [List.setIfInBounds_toArray, List.set_cons_zero, List.set_cons_succ]
            refine take_yes 10 50 rfl rfl (by kernel_rfl) (by kernel_rfl) (by kernel_rfl) (fun _ _ _ h => h) (by assumption) (by rfl) (v := ?_) ?_ ?_
            rotate_left 1
            · (intro w hSw; (try dsimp only at hSw); go_simp; try with_reducible rfl)
            simp only [List.setIfInBounds_toArray, List.set_cons_zero, List.set_cons_succ]
            refine take_yes 11 51 rfl rfl (by kernel_rfl) (by kernel_rfl) (by kernel_rfl) (fun _ _ _ h => h) (by assumption) (by rfl) (v := ?_) ?_ ?_
            rotate_left 1
            · (intro w hSw; (try dsimp only at hSw); go_simp; try with_reducible rfl)
            simp only [List.setIfInBounds_toArray, List.set_cons_zero, List.set_cons_succ]
            refine take_yes 12 52 rfl rfl (by kernel_rfl) (by kernel_rfl) (by kernel_rfl) (fun _ _ _ h => h) (by assumption) (by rfl) (v := ?_) ?_ ?_
            rotate_left 1
            · (intro w hSw; (try dsimp only at hSw); go_simp; try with_reducible rfl)
            simp only [List.setIfInBounds_toArray, List.set_cons_zero, List.set_cons_succ]
            refine take_yes 13 53 rfl rfl (by kernel_rfl) (by kernel_rfl) (by kernel_rfl) (fun _ _ _ h => h) (by assumption) (by rfl) (v := ?_) ?_ ?_
            rotate_left 1
            · (intro w hSw; (try dsimp only at hSw); go_simp; try with_reducible rfl)
            simp only [List.setIfInBounds_toArray, List.set_cons_zero, List.set_cons_succ]
            refine take_yes 14 54 rfl rfl (by kernel_rfl) (by kernel_rfl) (by kernel_rfl) (fun _ _ _ h => h) (by assumption) (by rfl) (v := ?_) ?_ ?_
            rotate_left 1
            · (intro w hSw; (try dsimp only at hSw); go_simp; try with_reducible rfl)
            simp only [List.setIfInBounds_toArray, List.set_cons_zero, List.set_cons_succ]
            refine wpAnyH_ready (rs := [15]) (by kernel_rfl) (by simp) ?_
            refine AllReadyH.cons rfl (fun K hK => ?_) AllReadyH.nil
            -- 15:  dst := some 55, op := Op.call  callee := Callee.value (Operand.func 37), args := #[Operand.tmp 48, Operand.tmp 53, Operand.tmp 
            go_simp
            go_at_call 37
            refine (HVF.out w1.drew _ _ _ ⟨_, _, rfl, by rw [← HPL.out.1]; exact H2.out.2.2.tx.pl.1.below (Below.refl _ _).drew, by rw [← HPL.out.2.1]; exact H2.out.2.2.tx.pw.rws.below (Below.refl _ _).drew⟩ ⟨_, rfl, by rw [← HPL.out.2.2]; exact H2.out.2.2.tx.cr.1.below (Below.refl _ _).drew⟩ ⟨_, _, by rw [hgw], HX.out.1.below H2.out.2.1.drew, HX.out.2.below H2.out.2.1.drew⟩).mono ?_
            rw [HNV.out]
            rintro e w2 ⟨rfl, h2'⟩
            have h2 : Below w1.heap.size w1 w2 := ⟨h2'.os, h2'.tape, h2'.output, h2'.size, h2'.block⟩
            have kA := H2.out.1.below h2
            have kF := H2.out.2.2.blk.below h2
            have j0 := kA.cell 0 _ rfl
            rw [hgw] at j0
            have j1 := kA.cell 1 _ rfl
            have j2 := kA.cell 2 _ rfl
            have j3 := kA.cell 3 _ rfl
            have i0 : w2.cell? ⟨f, 0, none⟩ = some (.slice PA d.p.log.length pc) := by rw [← HPL.out.1]; exact kF.cell 0 _ rfl
            have i1 : w2.cell? ⟨f, 1, none⟩ = some (.slice PW d.p.wits.length pwc) := by rw [← HPL.out.2.1]; exact kF.cell 1 _ rfl
            have i2 : w2.cell? ⟨f, 2, none⟩ = some (.int .i64 d.p.quorum) := kF.cell 2 _ rfl
            have i6 : w2.cell? ⟨f, 6, none⟩ = some (.int .i64 d.cur.ck.num) := kF.cell 6 _ rfl
            have i7 : w2.cell? ⟨f, 7, none⟩ = some (.slice RA d.cur.ck.root.length rc) := by rw [← HPL.out.2.2]; exact kF.cell 7 _ rfl
            have H3 := Lib.hid (And.intro (H2.out.2.1.trans (h2.mono H2.out.2.1.size)) (H2.out.2.2.below h2))
            clear h2 h2' kA kF
            go_wp2_with fail
            refine hK.out _ _ ⟨j0, j1, j2, j3, i0, i1, i2, i6, i7⟩ (fun hHeld15 => ?_)
            clear hK K
            try simp only [Act.put, List.setIfInBounds_toArray, List.set_cons_zero, List.set_cons_succ]
            refine take_yes 16 56 rfl rfl (by kernel_rfl) (by kernel_rfl) (by kernel_rfl) (fun _ _ _ h => h) (by assumption) (by rfl) (v := ?_) ?_ ?_
            rotate_left 1
            · (intro w hSw; (try dsimp only at hSw); go_simp; try with_reducible rfl)
            simp only [List.setIfInBounds_toArray, List.set_cons_zero, List.set_cons_succ]
            refine wpAnyH_done (by kernel_rfl) ?_ _
            clear hHeld hHeld15 j0 j1 j2 j3 i0 i1 i2 i6 i7 c0 c1 c2 c3 g0 g1 g2 g6 g7
            have m6 : w2.cell? ⟨f, 6, none⟩ = some (.int .i64 d.cur.ck.num) := H3.out.2.blk.cell 6 _ rfl
            have m5 := cell5 H3.out.2.blk
            have mz := H3.out.2.wt.cell _ _ (cellsW_at d.l k hkl).1
            rw [← wAt_eq d.l k hkl] at mz
            have my := H3.out.2.wt.free (k * 3)
            have mlb := H3.out.2.wt.lt
            have mfl := H3.out.2.blk.lt
            by_cases hs0 : 0 ≤ size
            · by_cases hs1 : size ≤ d.cur.ck.num
              · rw [decide_eq_true hs0, decide_eq_true hs1, Bool.true_and, Bool.true_and] at HREP
                by_cases hs2 : size = (wAt d.l k).size
                · have HF : Hid (repB d k size = false) := Lib.hid (by rw [HREP.out, decide_eq_true hs2]; rfl)
                  rw [← hs2] at mz
                  go_wp2
                  go_ret
                  exact HNOT.out _ H3.out.1 HF.out
                · have HT : Hid (repB d k size = true) := Lib.hid (by rw [HREP.out, decide_eq_false hs2]; rfl)
                  have hcs : Chg w2 (w2.setCell ⟨r.lb, k * 3, none⟩ (.int .i64 size)) (fun k => k = r.lb) := chg_cell (Chg.refl w2 _) (k * 3) (.int .i64 size)
                  have hbl : Blk (w2.setCell ⟨r.lb, k * 3, none⟩ (.int .i64 size)) r.lb 87 (cellsW (d.l.set k ⟨size, (wAt d.l k).tries, (wAt d.l k).kept⟩)) := by
                    rw [cellsW_size d.l k size hkl]
                    exact H3.out.2.wt.set (k * 3) _ (by have := (List.getElem?_eq_some_iff.1 (cellsW_at d.l k hkl).1).1; exact this)
                  have HK := Lib.hid (And.intro (H3.out.2.setW (d.l.set k ⟨size, (wAt d.l k).tries, (wAt d.l k).kept⟩) (by simp) hcs hbl) hcs)
                  have HP := Lib.hid (plan_any Z f { d with l := d.l.set k ⟨size, (wAt d.l k).tries, (wAt d.l k).kept⟩ } r us es now (k : Int) (show d.m.length ≤ 10000000 by omega) (show d.ord ≤ 1000000000 by omega) _ HK.out.1)
                  have n2 : ((size == (wAt d.l k).size) : Bool) = false := by simpa using hs2
                  clear hcs hbl
                  go_wp2_with fail
                  refine HP.out.mono ?_
                  rintro e w4 ⟨v4, rfl, h1, h2, -⟩
                  have H4 := Lib.hid (And.intro h1 h2)
                  clear h1 h2
                  go_wp2
                  go_ret
                  have hz3 := HK.out.2.size
                  have hz2 := H3.out.1.size
                  refine ⟨by rw [HT.out]; rfl, ?_, ?_⟩
                  · unfold repN
                    rw [HT.out, if_pos rfl, Int.toNat_natCast]
                    exact ⟨_, us, es, H4.out.1.wide (fun x hx => by
                      rcases hx with hx | hx
                      · exact .inl hx
                      · exact .inr ⟨by have : (w2.setCell ⟨r.lb, k * 3, none⟩ (.int .i64 size)).heap.size ≤ x := hx.1; omega, hx.2⟩)⟩
                  · have c1 : Chg w w2 Z := (Chg.refl w Z).trans (Chg.of_below (S := fun _ => False) H3.out.1) (fun _ _ h => h.elim)
                    have c2 := c1.trans HK.out.2 (fun x _ e => HOK.out.mz x (.inr (.inl e)))
                    exact c2.trans H4.out.2 (fun x _ e => HOK.out.mz x (.inr (.inr (.inr e))))
              · have HF : Hid (repB d k size = false) := Lib.hid (by rw [HREP.out, decide_eq_false hs1]; simp)
                go_wp2
                go_ret
                exact HNOT.out _ H3.out.1 HF.out
            · have HF : Hid (repB d k size = false) := Lib.hid (by rw [HREP.out, decide_eq_false hs0]; rfl)
              go_wp2
              go_ret
              exact HNOT.out _ H3.out.1 HF.out
          · have n0 : ((g.wit == (k : Int)) : Bool) = false := by simpa using hgw
            refine wp_region_held_drew (S := fun w' => w'.cell? ⟨w.heap.size, 0, none⟩ = some (.int .i64 g.wit)) (by kernel_rfl) ?_ (fun hHeld => ?_)
            · exact c0
            refine take_yes 0 40 rfl rfl (by kernel_rfl) (by kernel_rfl) (by kernel_rfl) (fun _ _ _ h => h) (by assumption) (by rfl) (v := ?_) ?_ ?_
            rotate_left 1
            · (intro w hSw; (try dsimp only at hSw); go_simp; try with_reducible rfl)
            simp only [List.setIfInBounds_toArray, List.set_cons_zero, List.set_cons_succ]
            refine take_yes 1 41 rfl rfl (by kernel_rfl) (by kernel_rfl) (by kernel_rfl) (fun _ _ _ h => h) (by assumption) (by rfl) (v := ?_) ?_ ?_
            rotate_left 1
            · (intro w hSw; (try dsimp only at hSw); go_simp; try with_reducible rfl)
            simp only [List.setIfInBounds_toArray, List.set_cons_zero, List.set_cons_succ]
            refine take_yes 2 42 rfl rfl (by kernel_rfl) (by kernel_rfl) (by kernel_rfl) (fun _ _ _ h => h) (by assumption) (by rfl) (v := ?_) ?_ ?_
            rotate_left 1
            · (intro w hSw; (try dsimp only at hSw); go_simp; try with_reducible rfl)
            simp only [List.setIfInBounds_toArray, List.set_cons_zero, List.set_cons_succ]
            refine take_yes 3 43 rfl rfl (by kernel_rfl) (by kernel_rfl) (by kernel_rfl) (fun _ _ _ h => h) (by assumption) (by rfl) (v := ?_) ?_ ?_
            rotate_left 1
            · (intro w hSw; (try dsimp only at hSw); go_simp; try with_reducible rfl)
            simp only [List.setIfInBounds_toArray, List.set_cons_zero, List.set_cons_succ]
            refine take_yes 4 44 rfl rfl (by kernel_rfl) (by kernel_rfl) (by kernel_rfl) (fun _ _ _ h => h) (by assumption) (by rfl) (v := ?_) ?_ ?_
            rotate_left 1
            · (intro w hSw; (try dsimp only at hSw); go_simp; try with_reducible rfl)
            simp only [List.setIfInBounds_toArray, List.set_cons_zero, List.set_cons_succ]
            refine take_no 5 45 rfl rfl (by kernel_rfl) (by kernel_rfl) (by kernel_rfl) (fun _ _ _ h => h) (by assumption) (by rfl) ?_
            simp only [List.setIfInBounds_toArray, List.set_cons_zero, List.set_cons_succ]
            refine take_no 6 46 rfl rfl (by kernel_rfl) (by kernel_rfl) (by kernel_rfl) (fun _ _ _ h => h) (by assumption) (by rfl) ?_
            simp only [List.setIfInBounds_toArray, List.set_cons_zero, List.set_cons_succ]
            refine take_no 7 47 rfl rfl (by kernel_rfl) (by kernel_rfl) (by kernel_rfl) (fun _ _ _ h => h) (by assumption) (by rfl) ?_
            simp only [List.setIfInBounds_toArray, List.set_cons_zero, List.set_cons_succ]
            refine take_no 8 48 rfl rfl (by kernel_rfl) (by kernel_rfl) (by kernel_rfl) (fun _ _ _ h => h) (by assumption) (by rfl) ?_
            simp only [List.setIfInBounds_toArray, List.set_cons_zero, List.set_cons_succ]
            refine take_no 9 49 rfl rfl (by kernel_rfl) (by kernel_rfl) (by kernel_rfl) (fun _ _ _ h => h) (by assumption) (by rfl) ?_
            simp only [List.setIfInBounds_toArray, List.set_cons_zero, List.set_cons_succ]
            refine take_no 10 50 rfl rfl (by kernel_rfl) (by kernel_rfl) (by kernel_rfl) (fun _ _ _ h => h) (by assumption) (by rfl) ?_
            simp only [List.setIfInBounds_toArray, List.set_cons_zero, List.set_cons_succ]
            refine take_no 11 51 rfl rfl (by kernel_rfl) (by kernel_rfl) (by kernel_rfl) (fun _ _ _ h => h) (by assumption) (by rfl) ?_
            simp only [List.setIfInBounds_toArray, List.set_cons_zero, List.set_cons_succ]
            refine take_no 12 52 rfl rfl (by kernel_rfl) (by kernel_rfl) (by kernel_rfl) (fun _ _ _ h => h) (by assumption) (by rfl) ?_
            simp only [List.setIfInBounds_toArray, List.set_cons_zero, List.set_cons_succ]
            refine take_no 13 53 rfl rfl (by kernel_rfl) (by kernel_rfl) (by kernel_rfl) (fun _ _ _ h => h) (by assumption) (by rfl) ?_
            simp only [List.setIfInBounds_toArray, List.set_cons_zero, List.set_cons_succ]
            refine take_no 14 54 rfl rfl (by kernel_rfl) (by kernel_rfl) (by kernel_rfl) (fun _ _ _ h => h) (by assumption) (by rfl) ?_
            simp only [List.setIfInBounds_toArray, List.set_cons_zero, List.set_cons_succ]
            refine take_no 15 55 rfl rfl (by kernel_rfl) (by kernel_rfl) (by kernel_rfl) (fun _ _ _ h => h) (by assumption) (by rfl) ?_
            simp only [List.setIfInBounds_toArray, List.set_cons_zero, List.set_cons_succ]
            refine take_yes 16 56 rfl rfl (by kernel_rfl) (by kernel_rfl) (by kernel_rfl) (fun _ _ _ h => h) (by assumption) (by rfl) (v := ?_) ?_ ?_
            rotate_left 1
            · (intro w hSw; (try dsimp only at hSw); go_simp; try with_reducible rfl)
            simp only [List.setIfInBounds_toArray, List.set_cons_zero, List.set_cons_succ]
            refine wpAnyH_done (by kernel_rfl) ?_ _
            have hb2 : Below w1.heap.size w1 w1.drew := (Below.refl _ _).drew
            generalize w1.drew = w2 at *
            have H3 := Lib.hid (And.intro (H2.out.2.1.trans (hb2.mono H2.out.2.1.size)) (H2.out.2.2.below hb2))
            clear hb2 hHeld c0 c1 c2 c3 g0 g1 g2 g6 g7
            have m6 : w2.cell? ⟨f, 6, none⟩ = some (.int .i64 d.cur.ck.num) := H3.out.2.blk.cell 6 _ rfl
            have m5 := cell5 H3.out.2.blk
            have mz := H3.out.2.wt.cell _ _ (cellsW_at d.l k hkl).1
            rw [← wAt_eq d.l k hkl] at mz
            have my := H3.out.2.wt.free (k * 3)
            have mlb := H3.out.2.wt.lt
            have mfl := H3.out.2.blk.lt
            by_cases hs0 : 0 ≤ size
            · by_cases hs1 : size ≤ d.cur.ck.num
              · rw [decide_eq_true hs0, decide_eq_true hs1, Bool.true_and, Bool.true_and] at HREP
                by_cases hs2 : size = (wAt d.l k).size
                · have HF : Hid (repB d k size = false) := Lib.hid (by rw [HREP.out, decide_eq_true hs2]; rfl)
                  rw [← hs2] at mz
                  go_wp2
                  go_ret
                  exact HNOT.out _ H3.out.1 HF.out
                · have HT : Hid (repB d k size = true) := Lib.hid (by rw [HREP.out, decide_eq_false hs2]; rfl)
                  have hcs : Chg w2 (w2.setCell ⟨r.lb, k * 3, none⟩ (.int .i64 size)) (fun k => k = r.lb) := chg_cell (Chg.refl w2 _) (k * 3) (.int .i64 size)
                  have hbl : Blk (w2.setCell ⟨r.lb, k * 3, none⟩ (.int .i64 size)) r.lb 87 (cellsW (d.l.set k ⟨size, (wAt d.l k).tries, (wAt d.l k).kept⟩)) := by
                    rw [cellsW_size d.l k size hkl]
                    exact H3.out.2.wt.set (k * 3) _ (by have := (List.getElem?_eq_some_iff.1 (cellsW_at d.l k hkl).1).1; exact this)
                  have HK := Lib.hid (And.intro (H3.out.2.setW (d.l.set k ⟨size, (wAt d.l k).tries, (wAt d.l k).kept⟩) (by simp) hcs hbl) hcs)
                  have HP := Lib.hid (plan_any Z f { d with l := d.l.set k ⟨size, (wAt d.l k).tries, (wAt d.l k).kept⟩ } r us es now (k : Int) (show d.m.length ≤ 10000000 by omega) (show d.ord ≤ 1000000000 by omega) _ HK.out.1)
                  have n2 : ((size == (wAt d.l k).size) : Bool) = false := by simpa using hs2
                  clear hcs hbl
                  go_wp2_with fail
                  refine HP.out.mono ?_
                  rintro e w4 ⟨v4, rfl, h1, h2, -⟩
                  have H4 := Lib.hid (And.intro h1 h2)
                  clear h1 h2
                  go_wp2
                  go_ret
                  have hz3 := HK.out.2.size
                  have hz2 := H3.out.1.size
                  refine ⟨by rw [HT.out]; rfl, ?_, ?_⟩
                  · unfold repN
                    rw [HT.out, if_pos rfl, Int.toNat_natCast]
                    exact ⟨_, us, es, H4.out.1.wide (fun x hx => by
                      rcases hx with hx | hx
                      · exact .inl hx
                      · exact .inr ⟨by have : (w2.setCell ⟨r.lb, k * 3, none⟩ (.int .i64 size)).heap.size ≤ x := hx.1; omega, hx.2⟩)⟩
                  · have c1 : Chg w w2 Z := (Chg.refl w Z).trans (Chg.of_below (S := fun _ => False) H3.out.1) (fun _ _ h => h.elim)
                    have c2 := c1.trans HK.out.2 (fun x _ e => HOK.out.mz x (.inr (.inl e)))
                    exact c2.trans H4.out.2 (fun x _ e => HOK.out.mz x (.inr (.inr (.inr e))))
              · have HF : Hid (repB d k size = false) := Lib.hid (by rw [HREP.out, decide_eq_false hs1]; simp)
                go_wp2
                go_ret
                exact HNOT.out _ H3.out.1 HF.out
            · have HF : Hid (repB d k size = false) := Lib.hid (by rw [HREP.out, decide_eq_false hs0]; rfl)
              go_wp2
              go_ret
              exact HNOT.out _ H3.out.1 HF.out
      · have HF : Hid (repB d wit size = false) := Lib.hid (by rw [HREP.out, decide_eq_false h1]; simp)
        go_wp2
        go_ret
        exact HNOT.out _ H1.out.2.1 HF.out
    · have HF : Hid (repB d wit size = false) := Lib.hid (by rw [HREP.out, decide_eq_false h0]; simp)
      go_wp2
      go_ret
      exact HNOT.out _ H1.out.2.1 HF.out
end Go.Proofs.Ytlkgeifmppadmaa
namespace Go.Proofs.Ytlkgeifmppadmaa
open Go.RowKit
set_option linter.unusedVariables false
set_option linter.unusedSimpArgs false

set_option maxRecDepth 100000 in
set_option maxHeartbeats 4000000 in
theorem requests_same (va vb : Value) (l : List (Int × Int)) (hl : l.length ≤ 1000000) (w : World) (ha : Sho w va l.length 2 (reqCells l)) (hb : Sho w vb l.length 2 (reqCells l)) :
    Calls Try.prog 19 #[va, vb] w fun e w' => e = .returned (.bool true) ∧ Below w.heap.size w w' := by
  obtain ⟨A, ca, rfl⟩ := ha.form
  obtain ⟨B, cb, rfl⟩ := hb.form
  have HX := Lib.hid (And.intro ha hb)
  clear ha hb
  go_enter Try.func19, Try.ntmps19
  go_wp2
  go_loopw [5] (fun v wr => ∃ i : Nat, v = .int .i64 i ∧ i ≤ l.length ∧ Hid (Below w.heap.size w wr)) (fun v _ => l.length - (intOf v).toNat)
  case atStart => exact ⟨0, rfl, Nat.zero_le _, Lib.hid (Below.refl _ _)⟩
  case round =>
    obtain ⟨i, rfl, hi, HI⟩ := hrel
    by_cases hlt : i < l.length
    · obtain ⟨ga, oa, rfl, _, hga, hca, _, h5⟩ := HX.out.1.place (by omega)
      obtain ⟨gb, ob, rfl, _, hgb, hcb, _, h6⟩ := HX.out.2.place (by omega)
      obtain ⟨ea, eb⟩ := reqCells_at l i hlt
      have a0 := (HI.out.cell (p := ⟨ga, oa + i * 2, none⟩) hga).trans (h5 _ _ ea)
      have a1 := (HI.out.cell (p := ⟨ga, oa + (i * 2 + 1), none⟩) hga).trans (h5 _ _ eb)
      have b0 := (HI.out.cell (p := ⟨gb, ob + i * 2, none⟩) hgb).trans (h6 _ _ ea)
      have b1 := (HI.out.cell (p := ⟨gb, ob + (i * 2 + 1), none⟩) hgb).trans (h6 _ _ eb)
      rw [← Nat.add_assoc] at a1 b1
      clear h5 h6 ea eb
      generalize l[i].1 = x at *
      generalize l[i].2 = y at *
      go_wp2
      refine wp_region_held_drew (S := fun w' => w'.cell? ⟨ga, oa + i * 2, none⟩ = some (.int .i64 x) ∧ w'.cell? ⟨ga, oa + i * 2 + 1, none⟩ = some (.int .i64 y) ∧ w'.cell? ⟨gb, ob + i * 2, none⟩ = some (.int .i64 x) ∧ w'.cell? ⟨gb, ob + i * 2 + 1, none⟩ = some (.int .i64 y)) (by kernel_rfl) ?_ (fun hHeld => ?_)
      · exact ⟨a0, a1, b0, b1⟩
      refine take_yes 0 17 rfl rfl (by kernel_rfl) (by kernel_rfl) (by kernel_rfl) (fun _ _ _ h => h) (by assumption) (by rfl) (v := ?_) ?_ ?_
      rotate_left 1
      · (intro w hSw; (try dsimp only at hSw); go_simp; try with_reducible rfl)
      simp only [List.setIfInBounds_toArray, List.set_cons_zero, List.set_cons_succ]
      refine take_yes 1 18 rfl rfl (by kernel_rfl) (by kernel_rfl) (by kernel_rfl) (fun _ _ _ h => h) (by assumption) (by rfl) (v := ?_) ?_ ?_
      rotate_left 1
      · (intro w hSw; (try dsimp only at hSw); go_simp; try with_reducible rfl)
      simp only [List.setIfInBounds_toArray, List.set_cons_zero, List.set_cons_succ]
      refine take_yes 2 19 rfl rfl (by kernel_rfl) (by kernel_rfl) (by kernel_rfl) (fun _ _ _ h => h) (by assumption) (by rfl) (v := ?_) ?_ ?_
      rotate_left 1
      · (intro w hSw; (try dsimp only at hSw); go_simp; try with_reducible rfl)
      simp only [List.setIfInBounds_toArray, List.set_cons_zero, List.set_cons_succ]
      refine take_yes 3 20 rfl rfl (by kernel_rfl) (by kernel_rfl) (by kernel_rfl) (fun _ _ _ h => h) (by assumption) (by rfl) (v := ?_) ?_ ?_
      rotate_left 1
      · (intro w hSw; (try dsimp only at hSw); go_simp; try with_reducible rfl)
      simp only [List.setIfInBounds_toArray, List.set_cons_zero, List.set_cons_succ]
      refine take_yes 4 21 rfl rfl (by kernel_rfl) (by kernel_rfl) (by kernel_rfl) (fun _ _ _ h => h) (by assumption) (by rfl) (v := ?_) ?_ ?_
      rotate_left 1
      · (intro w hSw; (try dsimp only at hSw); go_simp; try with_reducible rfl)
      simp only [List.setIfInBounds_toArray, List.set_cons_zero, List.set_cons_succ]
      refine take_yes 5 22 rfl rfl (by kernel_rfl) (by kernel_rfl) (by kernel_rfl) (fun _ _ _ h => h) (by assumption) (by rfl) (v := ?_) ?_ ?_
      rotate_left 1
      · (intro w hSw; (try dsimp only at hSw); go_simp; try with_reducible rfl)
      simp only [List.setIfInBounds_toArray, List.set_cons_zero, List.set_cons_succ]
      refine take_yes 6 23 rfl rfl (by kernel_rfl) (by kernel_rfl) (by kernel_rfl) (fun _ _ _ h => h) (by assumption) (by rfl) (v := ?_) ?_ ?_
      rotate_left 1
      · (intro w hSw; (try dsimp only at hSw); go_simp; try with_reducible rfl)
      simp only [List.setIfInBounds_toArray, List.set_cons_zero, List.set_cons_succ]
      refine take_yes 7 24 rfl rfl (by kernel_rfl) (by kernel_rfl) (by kernel_rfl) (fun _ _ _ h => h) (by assumption) (by rfl) (v := ?_) ?_ ?_
      rotate_left 1
      · (intro w hSw; (try dsimp only at hSw); go_simp; try with_reducible rfl)
      simp only [List.setIfInBounds_toArray, List.set_cons_zero, List.set_cons_succ]
      refine take_yes 8 25 rfl rfl (by kernel_rfl) (by kernel_rfl) (by kernel_rfl) (fun _ _ _ h => h) (by assumption) (by rfl) (v := ?_) ?_ ?_
      rotate_left 1
      · (intro w hSw; (try dsimp only at hSw); go_simp; try with_reducible rfl)
      simp only [List.setIfInBounds_toArray, List.set_cons_zero, List.set_cons_succ]
      refine wpAnyH_done (by kernel_rfl) ?_ _
      have hb2 := HI.out.drew
      generalize wr.drew = w2 at *
      have H2 := Lib.hid hb2
      clear hb2 hHeld a0 a1 b0 b1
      go_wp2
      go_roundw
      case rel => exact ⟨i + 1, by go_num, by omega, H2⟩
      case measure => simp [intOf]; omega
    · obtain rfl : i = l.length := by omega
      go_wp2
      go_ret
      exact ⟨rfl, HI.out⟩
end Go.Proofs.Ytlkgeifmppadmaa
namespace Go.Proofs.Ytlkgeifmppadmaa
open Go.RowKit
set_option linter.unusedVariables false
set_option linter.unusedSimpArgs false

theorem FdAt.wide {Z Z' : Nat → Prop} {w : World} {f : Nat} {d : FdD} (h : FdAt Z w f d) (hZ : ∀ g, Z g → Z' g) : FdAt Z' w f d := by
  obtain ⟨r, us, es, h⟩ := h
  exact ⟨r, us, es, h.wide hZ⟩
/-- What a step leaves of a feeder in blocks of Z. -/
def OnZ (Z : Nat → Prop) (w w' : World) (f : Nat) (d : FdD) : Prop := FdAt (Wide Z w w') w' f d ∧ Chg w w' Z
theorem onZ_quiet {Z : Nat → Prop} {w w' : World} {f : Nat} {d : FdD} (h : FdAt Z w f d) (hb : Below w.heap.size w w') : OnZ Z w w' f d :=
  ⟨(h.below hb).wide (fun g hg => .inl hg), (Chg.refl w Z).trans (Chg.of_below (S := fun _ => False) hb) (fun _ _ h => h.elim)⟩
theorem offer_z (Z : Nat → Prop) (f : Nat) (d : FdD) (p : PolD) (retry : Int) (n K : Nat) (v : Value) (s : SgD) (now : Int) (hj : FdJ d p retry n K) (hn : n ≤ 4) (hK : K ≤ 10000) (hp : p.log.length ≤ 1000000000) (hr : s.ck.root.length ≤ 100000000) (hs : SmallSig s.sig) (w : World) (hZ : ∀ g, Z g → g < w.heap.size) (h : FdAt Z w f d) (hv : SgV w v s) :
    Calls Try.prog 15 #[.pointer (some ⟨f, 0, none⟩), v, .int .i64 now] w fun e w' => e = .returned (.bool (offB d s)) ∧ OnZ Z w w' f (offN d s now) := by
  have h0 := h
  obtain ⟨r, us, es, h1⟩ := h
  have hlog : d.p.log.length ≤ 1000000000 := by rw [hj.pol]; exact hp
  cases hb : offB d s with
  | false =>
    refine (offer_no Z f d r us es v s now hlog hr hs w h1 hv hb).mono ?_
    rintro e w' ⟨e1, e2⟩
    refine ⟨e1, ?_⟩
    unfold offN
    rw [hb, if_neg (by decide)]
    exact onZ_quiet h0 e2
  | true =>
    have h2 := hb
    simp only [offB, Bool.and_eq_true, Bool.not_eq_true', Bool.and_eq_false_iff, decide_eq_false_iff_not] at h2
    obtain ⟨a1, a2⟩ := h2
    refine (offer_yes Z f d r us es v s now hlog hr hs w h1 hv a1 (fun hh => by
      rcases a2 with a2 | a2
      · rw [hh] at a2; exact absurd a2 (by decide)
      · omega) (by have := hj.ml; omega) (by have := hj.ord; omega) (by rw [hj.len]; omega) hZ).mono ?_
    rintro e w' ⟨e1, e2, e3⟩
    refine ⟨e1, ?_⟩
    unfold offN
    rw [hb, if_pos rfl]
    exact ⟨e2, e3⟩
theorem step_z (Z : Nat → Prop) (f : Nat) (d : FdD) (p : PolD) (retry : Int) (n K : Nat) (now : Int) (hj : FdJ d p retry n K) (hn : n ≤ 4) (hK : K ≤ 10000) (hre : 1 ≤ retry ∧ retry ≤ 1000) (hnow : 0 ≤ now ∧ now ≤ 1000000000000) (w : World) (hZ : ∀ g, Z g → g < w.heap.size) (h : FdAt Z w f d) :
    Calls Try.prog 16 #[.pointer (some ⟨f, 0, none⟩), .int .i64 now] w fun e w' => ∃ A c, e = .returned (.slice A (reqL d now).length c) ∧ w'.ownsRow w.heap.size 62 2 (.slice A (reqL d now).length c) (reqL d now).length (reqCells (reqL d now)) ∧ OnZ Z w w' f (stepD d now) := by
  refine (step_any Z f d now hnow (by rw [hj.re]; exact hre) (by have := hj.ml; omega) (by have := hj.ord; omega) (fun x hx => by rw [hj.len]; exact hj.wh x hx) (fun k => by have := hj.tr k; exact ⟨this.1, by have := this.2; omega⟩) (by rw [hj.len]; omega) w hZ h).mono ?_
  rintro e w' ⟨v, rfl, e1, e2, e3⟩
  obtain ⟨A, c, rfl⟩ := (Sho.own e1).form
  exact ⟨A, c, rfl, e1, e2, e3⟩
theorem reply_z (Z : Nat → Prop) (f : Nat) (d : FdD) (p : PolD) (retry : Int) (n K : Nat) (v : Value) (g : CgD) (wit size now : Int) (hj : FdJ d p retry n K) (hn : n ≤ 4) (hK : K ≤ 10000) (hp : SmallPol p) (hs : SmallSig g.sig) (hno : rightB g.sig = false) (w : World) (hZ : ∀ g, Z g → g < w.heap.size) (h : FdAt Z w f d) (hv : CgV w v g) :
    Calls Try.prog 18 #[.pointer (some ⟨f, 0, none⟩), .int .i64 wit, v, .int .i64 size, .int .i64 now] w fun e w' => e = .returned (.bool (repB d wit size)) ∧ OnZ Z w w' f (repN d wit size now) := by
  obtain ⟨r, us, es, h1⟩ := h
  refine (reply_nv Z f d r us es v g wit size now (by rw [hj.pol]; exact hp) hj.sm.2 hs w h1 hv (fun _ => ?_) (by have := hj.ml; omega) (by have := hj.ord; omega) (by rw [hj.len]; omega) hZ).mono (fun e w' h => h)
  simp [cgVerB, verifyB, hno]
theorem FdJ.repN {d : FdD} {p : PolD} {retry : Int} {n B : Nat} (h : FdJ d p retry n B) (wit size now : Int) : FdJ (repN d wit size now) p retry n (B + 1) := by
  unfold Go.Proofs.Ytlkgeifmppadmaa.repN
  by_cases hb : repB d wit size = true
  · rw [if_pos hb]
    have hb2 := hb
    simp only [repB, Bool.and_eq_true, decide_eq_true_eq] at hb2
    have hk : wit.toNat < n := by rw [← h.len]; omega
    refine ⟨h.pol, h.re, by show (d.l.set _ _).length = n; rw [List.length_set]; exact h.len, ?_, ?_, ?_, ?_, h.sm⟩
    · intro x hx
      rcases mem_insE.1 hx with rfl | hx
      · exact ⟨by show (0 : Int) ≤ (wit.toNat : Int); omega, by show (wit.toNat : Int) < (n : Int); omega⟩
      · exact h.wh x (mem_keepW.1 hx).1
    · show (insE _ (keepW _ d.m)).length ≤ _
      rw [insE_length]
      have := keepW_le (wit.toNat : Int) d.m
      have := h.ml
      omega
    · show d.ord + 1 ≤ _
      have := h.ord
      omega
    · intro j
      have h1 := h.tr j
      have h2 := h.tr wit.toNat
      show 0 ≤ (wAt (d.l.set wit.toNat _) j).tries ∧ (wAt (d.l.set wit.toNat _) j).tries ≤ _
      rw [wAt_set]
      split
      · exact ⟨h2.1, by have := h2.2; show (wAt d.l wit.toNat).tries ≤ _; omega⟩
      · exact ⟨h1.1, by have := h1.2; omega⟩
  · rw [if_neg hb]
    exact h.up (by omega)
/-- Two feeders apart, and the owners below them. -/
structure TwS (Za Zb S : Nat → Prop) (B : Nat) (w wr : World) (v : Value) (n fa fb : Nat) (da db : FdD) : Prop where
  own : OwnersS S wr v n
  low : ∀ g, S g → g < B
  size : B ≤ wr.heap.size
  base : w.heap.size ≤ B
  below : Below w.heap.size w wr
  a : FdAt Za wr fa da
  b : FdAt Zb wr fb db
  za : ∀ g, Za g → B ≤ g ∧ g < wr.heap.size
  zb : ∀ g, Zb g → B ≤ g ∧ g < wr.heap.size
  ap : ∀ g, Za g → ¬ Zb g
theorem TwS.swap {Za Zb S : Nat → Prop} {B : Nat} {w wr : World} {v : Value} {n fa fb : Nat} {da db : FdD} (h : TwS Za Zb S B w wr v n fa fb da db) : TwS Zb Za S B w wr v n fb fa db da :=
  ⟨h.own, h.low, h.size, h.base, h.below, h.b, h.a, h.zb, h.za, fun g hg e => h.ap g e hg⟩
theorem TwS.onA {Za Zb S : Nat → Prop} {B : Nat} {w wr w1 : World} {v : Value} {n fa fb : Nat} {da db d1 : FdD} (h : TwS Za Zb S B w wr v n fa fb da db) (hz : OnZ Za wr w1 fa d1) : TwS (Wide Za wr w1) Zb S B w w1 v n fa fb d1 db := by
  obtain ⟨h1, h2⟩ := hz
  have hs := h2.size
  exact ⟨h.own.chg h2 (fun g hg e => by have := h.low g hg; have := (h.za g e).1; omega), h.low, Nat.le_trans h.size hs, h.base, h.below.trans (h2.below h.below.size (fun k hk => Nat.le_trans h.base (h.za k hk).1)), h1, h.b.chg h2 (fun g hg e => h.ap g e hg),
    fun g hg => by
      rcases hg with hg | hg
      · have := h.za g hg; exact ⟨this.1, by omega⟩
      · exact ⟨Nat.le_trans h.size hg.1, hg.2⟩,
    fun g hg => by have := h.zb g hg; exact ⟨this.1, by omega⟩,
    fun g hg e => by
      rcases hg with hg | hg
      · exact h.ap g hg e
      · have := (h.zb g e).2; have h9 : wr.heap.size ≤ g := hg.1; omega⟩
theorem TwS.onB {Za Zb S : Nat → Prop} {B : Nat} {w wr w1 : World} {v : Value} {n fa fb : Nat} {da db d1 : FdD} (h : TwS Za Zb S B w wr v n fa fb da db) (hz : OnZ Zb wr w1 fb d1) : TwS Za (Wide Zb wr w1) S B w w1 v n fa fb da d1 := (h.swap.onA hz).swap
theorem TwS.quiet {Za Zb S : Nat → Prop} {B : Nat} {w wr w1 : World} {v : Value} {n fa fb : Nat} {da db : FdD} (h : TwS Za Zb S B w wr v n fa fb da db) (hb : Below wr.heap.size wr w1) : TwS Za Zb S B w w1 v n fa fb da db := by
  have hs := hb.size
  exact ⟨h.own.below hb, h.low, Nat.le_trans h.size hs, h.base, h.below.trans (hb.mono h.below.size), h.a.below hb, h.b.below hb, fun g hg => by have := h.za g hg; exact ⟨this.1, by omega⟩, fun g hg => by have := h.zb g hg; exact ⟨this.1, by omega⟩, h.ap⟩
theorem TwS.in {Za Zb S : Nat → Prop} {B : Nat} {w wr : World} {v : Value} {n fa fb : Nat} {da db : FdD} (h : TwS Za Zb S B w wr v n fa fb da db) : ∀ g, S g → g < wr.heap.size := fun g hg => Nat.lt_of_lt_of_le (h.low g hg) h.size
/-- The cosignature that says nothing. -/
def zCg : CgD := ⟨0, ⟨0, [], []⟩⟩
theorem zCg_wrong : rightB zCg.sig = false := rfl
theorem zCg_small : SmallSig zCg.sig := ⟨Nat.zero_le _, Nat.zero_le _, fun i h => absurd h (Nat.not_lt_zero _), fun i h => absurd h (Nat.not_lt_zero _)⟩
theorem zCg_v (w : World) : CgV w (.agg #[.int .i64 0, .int .i64 0, .slice none 0 0, .slice none 0 0]) zCg := ⟨_, _, rfl, ⟨[], Sho.nil w 1, fun i h => absurd h (Nat.not_lt_zero _)⟩, ⟨[], Sho.nil w 1, fun i h => absurd h (Nat.not_lt_zero _)⟩⟩
/-- A witness that there is not: refused. -/
theorem rep_far (d : FdD) (wit size now : Int) (h : wit < 0 ∨ (d.l.length : Int) ≤ wit) : repB d wit size = false ∧ repN d wit size now = d := by
  have hf : repB d wit size = false := by
    unfold repB
    rcases h with h | h
    · rw [show decide (0 ≤ wit) = false by simp; omega]; simp
    · rw [show decide (wit < (d.l.length : Int)) = false by simp; omega]; simp
  refine ⟨hf, ?_⟩
  unfold repN
  rw [hf, if_neg (by decide)]
end Go.Proofs.Ytlkgeifmppadmaa
