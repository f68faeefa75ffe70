/- The feeder's Done. The reference's Count of cosignatures. Conditions: as each theorem states them. -/
import Derived.Test.YtlkgeifmppadmaaGreatKl
import Derived.Test.YtlkgeifmppadmaaGreatKh
import Derived.Laws.MakeOwn
namespace Go.Proofs.YtlkgeifmppadmaaGreat
open Go.RowKit
set_option linter.unusedVariables false
set_option linter.unusedSimpArgs false

/-- A row of cosignatures of one's own, their texts in other blocks of one's own. -/
def OwnC (w : World) (base : Nat) (v : Value) (ls : List CgD) : Prop := ∃ us, w.ownsRow base 47 4 v ls.length us ∧ CgRow (fun g => base ≤ g ∧ g < w.heap.size ∧ v.ownBlock ≠ some g) w us ls
theorem OwnC.nil (w : World) (base : Nat) : OwnC w base (.slice none 0 0) [] := ⟨[], World.ownsRow_nil _ _ _ _, CgRow.nil _ _⟩
theorem OwnC.form {w : World} {base : Nat} {v : Value} {ls : List CgD} (h : OwnC w base v ls) : ∃ A c, v = .slice A ls.length c := by
  obtain ⟨us, h1, _⟩ := h
  exact (Sho.own h1).form
theorem OwnC.below {w w1 : World} {base : Nat} {v : Value} {ls : List CgD} (h : OwnC w base v ls) (hb : Below w.heap.size w w1) : OwnC w1 base v ls := by
  obtain ⟨us, h1, h2⟩ := h
  have hs := hb.size
  exact ⟨us, ownsRow_chg h1 (Chg.of_below (S := fun _ => False) hb) (fun _ _ h => h), (h2.chg (Chg.of_below (S := fun _ => False) hb) (fun _ _ h => h)).mono (fun g hg => ⟨hg.1, by have := hg.2.1; omega, hg.2.2⟩)⟩
theorem OwnC.mono {w : World} {base b' : Nat} {v : Value} {ls : List CgD} (h : OwnC w base v ls) (hb : b' ≤ base) : OwnC w b' v ls := by
  obtain ⟨us, h1, h2⟩ := h
  exact ⟨us, own_mono' h1 hb, h2.mono (fun g hg => ⟨Nat.le_trans hb hg.1, hg.2⟩)⟩
/-- One is laid behind. -/
theorem OwnC.push {w w2 W3 : World} {base : Nat} {v v' : Value} {ls : List CgD} {us new : List Value} {g : CgD}
    (hb2 : Below w.heap.size w w2) (hw : base ≤ w.heap.size) (hr : CgRow (fun g => base ≤ g ∧ g < w.heap.size ∧ v.ownBlock ≠ some g) w us ls) (ho : w.ownsRow base 47 4 v ls.length us)
    (hn : CgRow (fun x => w.heap.size ≤ x ∧ x < w2.heap.size) w2 new [g]) (hown : W3.ownsRow base 47 4 v' (ls.length + 1) (us ++ new)) (hc : Chg w2 W3 (fun k => v.ownBlock = some k)) (hlie : v'.ownBlock = v.ownBlock ∨ ∃ q, v'.ownBlock = some q ∧ w2.heap.size ≤ q) :
    OwnC W3 base v' (ls ++ [g]) := by
  have hs2 := hb2.size
  have hs3 := hc.size
  have hlt : ∀ k, v.ownBlock = some k → k < w.heap.size := fun k hk => (World.ownsRow.lt ho k hk).2
  have hne : ∀ k, k < w2.heap.size → v.ownBlock ≠ some k → v'.ownBlock ≠ some k := fun k hk hn e => by
    rcases hlie with e1 | ⟨q, e1, hq⟩
    · exact hn (by rw [← e1]; exact e)
    · rw [e1] at e; injection e with e; omega
  refine ⟨us ++ new, by rw [List.length_append]; exact hown, ?_⟩
  have a := ((hr.chg (Chg.of_below (S := fun _ => False) hb2) (fun _ _ h => h)).chg hc (fun k hk e => hk.2.2 e)).mono (T := fun x => base ≤ x ∧ x < W3.heap.size ∧ v'.ownBlock ≠ some x) (fun x hx => ⟨hx.1, by have := hx.2.1; omega, hne x (by have := hx.2.1; omega) hx.2.2⟩)
  have b := (hn.chg hc (fun k hk e => by have := hlt k e; have := hk.1; omega)).mono (T := fun x => base ≤ x ∧ x < W3.heap.size ∧ v'.ownBlock ≠ some x) (fun x hx => ⟨by have := hx.1; omega, by have := hx.2; omega, hne x hx.2 (fun e => by have := hlt x e; have := hx.1; omega)⟩)
  exact a.snoc b
theorem results_row_tmp2 {P : Program} {fn : Func} {p u t : Tmp} {ty : TypeId} (h : fn.results = #[.cell p ty, .tmp u, .tmp t]) (tmps : Array Value) (w : World) (g : Nat) (te : TypeId) (cs : Array Value) (fr : Nat × Nat) (d : TypeDesc)
    (hp : tmps.getD p undef = .pointer (some ⟨g, 0, none⟩)) (hg : w.heap[g]? = some (.cells cs te fr))
    (hu : P.underlying ty = some d) (hd : (match d with | .struct _ | .array _ _ => true | _ => false) = true) (hi : (P.info? ty).map (·.size) = some cs.size) (y z : Value) (hy : tmps.getD u undef = y) (hz : tmps.getD t undef = z) :
    (results fn tmps).run P w = .ok (.tuple #[.agg cs, y, z]) w := by
  have e : (results fn tmps).run P w = ((asAddr (tmps.getD p undef)).run P w).andThen fun a w₁ => ((loadVar ty a).run P w₁).andThen fun v w₂ => .ok (.tuple #[v, tmps.getD u undef, tmps.getD t undef]) w₂ := by
    simp only [results, h]
    simp [Sem.run_bind, Result.andThen]
  rw [e, hp, hy, hz]
  simp [asAddr, run_loadVar_row w g te ty cs fr d hg hu hd hi, Result.andThen]
/-- What Done tells. -/
def DonPost (w : World) (d : FdD) (e : Ending) (w' : World) : Prop :=
  ∃ r p q v, e = .returned (.tuple #[.agg #[.int .i64 (if d.enough.length = 0 then zSg else d.done).ck.num, r, .int .i64 (if d.enough.length = 0 then zSg else d.done).sig.index, p, q], v, .bool (decide (0 < d.enough.length))]) ∧ Bys w' r (if d.enough.length = 0 then zSg else d.done).ck.root ∧ Rws w' p (if d.enough.length = 0 then zSg else d.done).sig.parts ∧ Rws w' q (if d.enough.length = 0 then zSg else d.done).sig.path ∧ OwnC w' w.heap.size v d.enough ∧ Below w.heap.size w w'
set_option maxRecDepth 100000 in
set_option maxHeartbeats 8000000 in
theorem done_any (Z : Nat → Prop) (f : Nat) (d : FdD) (hl : d.enough.length ≤ 1000) (hg : ∀ g ∈ d.enough, SmallSig g.sig) (hr : d.done.ck.root.length ≤ 100000000) (hs : SmallSig d.done.sig) (w : World) (hok : FdAt Z w f d) :
    Calls Tryz.prog 14 #[.pointer (some ⟨f, 0, none⟩)] w (DonPost w d) := by
  obtain ⟨r, us, es, hok⟩ := hok
  obtain ⟨i0, hi0, hz0, hz1, hz2⟩ := info_parts info_cosig
  have HCK := Lib.hid (fun (wz : World) (v : Value) (hz : SgV wz v d.done) => ckcopy_any v d.done hr hs wz hz)
  have HCP := Lib.hid (fun (g : CgD) (hs : SmallSig g.sig) (wz : World) (v : Value) (hz : CgV wz v g) => cgcopy_any v g hs wz hz)
  have HSM := Lib.hid hg
  obtain ⟨R, cr, er⟩ := hok.tx.dr.1.form
  obtain ⟨P, cp, ep⟩ := hok.tx.dp.rws.form
  obtain ⟨Q, cq, eq⟩ := hok.tx.dq.rws.form
  obtain ⟨EA, ec, ee⟩ := hok.tx.en.form
  have HRC := Lib.hid (And.intro er (And.intro ep (And.intro eq ee)))
  have hb0 := (Below.refl w.heap.size w).alloc (Nat.le_refl _) (.cells #[.int .i64 0, .slice none 0 0, .int .i64 0, .slice none 0 0, .slice none 0 0] 40)
  have hk0 := Blk.new w 40 [.int .i64 0, .slice none 0 0, .int .i64 0, .slice none 0 0, .slice none 0 0]
  have hfw := hok.blk.lt
  have HW := Lib.hid (And.intro (hok.below hb0) (And.intro hk0 hb0))
  clear hb0 hk0 hok hr hs hg er ep eq ee
  have g18 : (w.alloc (.cells #[.int .i64 0, .slice none 0 0, .int .i64 0, .slice none 0 0, .slice none 0 0] 40)).cell? ⟨f, 18, none⟩ = some (.slice EA d.enough.length ec) := by rw [← HRC.out.2.2.2]; exact HW.out.1.blk.cell 18 _ rfl
  have hfl := HW.out.1.blk.lt
  by_cases h0 : d.enough.length = 0
  · have hnil : d.enough = [] := List.length_eq_zero_iff.1 h0
    rw [h0] at g18
    have z0 := HW.out.2.1.cell 0 _ rfl
    have y0 := HW.out.2.1.free 0
    have z1 := HW.out.2.1.cell 1 _ rfl
    have y1 := HW.out.2.1.free 1
    have z2 := HW.out.2.1.cell 2 _ rfl
    have y2 := HW.out.2.1.free 2
    have z3 := HW.out.2.1.cell 3 _ rfl
    have y3 := HW.out.2.1.free 3
    have z4 := HW.out.2.1.cell 4 _ rfl
    have y4 := HW.out.2.1.free 4
    have HH := Lib.hid (And.intro h0 hnil)
    clear h0 hnil
    go_enter Tryz.func14, Tryz.ntmps14
    go_wp2
    refine bodyPost_ret (v := .tuple #[.agg #[.int .i64 0, .slice none 0 0, .int .i64 0, .slice none 0 0, .slice none 0 0], .slice none 0 0, .bool false]) ?_ ?_ ?_
    · exact results_row_tmp2 Tryz.results14 _ _ w.heap.size 40 _ (0, 0) _ rfl HW.out.2.1 under_signed rfl size_signed _ _ rfl rfl
    · rfl
    · unfold DonPost
      rw [if_pos HH.out.1, HH.out.2]
      exact ⟨.slice none 0 0, .slice none 0 0, .slice none 0 0, .slice none 0 0, rfl, Sho.nil _ 1, ⟨[], Sho.nil _ 1, fun i h => absurd h (Nat.not_lt_zero _)⟩, ⟨[], Sho.nil _ 1, fun i h => absurd h (Nat.not_lt_zero _)⟩, OwnC.nil _ _, HW.out.2.2⟩
  · have hpos : 0 < d.enough.length := by omega
    have hlen0 : (((d.enough.length : Int) == 0) : Bool) = false := by rw [beq_eq_false_iff_ne]; omega
    have HPP := Lib.hid h0
    have hpl := HW.out.1.tx.en
    rw [HRC.out.2.2.2] at hpl
    obtain ⟨eg, eo, rfl, -, hgl, hcl, hcm, hcells⟩ := hpl.place hpos
    have HEC := Lib.hid (And.intro hcells HW.out.1.tx.ed)
    clear h0 hpl hcells
    go_enter Tryz.func14, Tryz.ntmps14
    go_wp2
    clear g18 hfl
    generalize hw1 : w.alloc (.cells #[.int .i64 0, .slice none 0 0, .int .i64 0, .slice none 0 0, .slice none 0 0] 40) = w1 at *
    have hww : w.heap.size < w1.heap.size := HW.out.2.1.lt
    clear hw1
    go_loopw [5, 20] (fun v5 v20 wr => ∃ k : Nat, v20 = .int .i64 k ∧ k ≤ d.enough.length ∧ Hid (Below w1.heap.size w1 wr ∧ OwnC wr w1.heap.size v5 (d.enough.take k))) (fun _ v _ => d.enough.length - (intOf v).toNat)
    case atStart => exact ⟨0, rfl, Nat.zero_le _, Lib.hid ⟨Below.refl _ _, OwnC.nil _ _⟩⟩
    case round =>
      obtain ⟨k, rfl, hk, HJ⟩ := hrel
      by_cases hlt : k < d.enough.length
      · obtain ⟨pv, qv, a0, a1, a2, a3, a4, a5⟩ := HEC.out.2.2 k hlt
        obtain ⟨P1, cp1, rfl⟩ := a4.rws.form
        obtain ⟨Q1, cq1, rfl⟩ := a5.rws.form
        have p0 := (HJ.out.1.cell (p := ⟨eg, eo + k * 4, none⟩) hgl).trans (HEC.out.1 _ _ a0)
        have p1 := (HJ.out.1.cell (p := ⟨eg, eo + k * 4 + 1, none⟩) hgl).trans (HEC.out.1 _ _ a1)
        have p2 := (HJ.out.1.cell (p := ⟨eg, eo + k * 4 + 2, none⟩) hgl).trans (HEC.out.1 _ _ a2)
        have p3 := (HJ.out.1.cell (p := ⟨eg, eo + k * 4 + 3, none⟩) hgl).trans (HEC.out.1 _ _ a3)
        have HG := Lib.hid (And.intro (HSM.out _ (List.getElem_mem hlt)) (And.intro (a4.rws.below HJ.out.1) (a5.rws.below HJ.out.1)))
        have HT : Hid (d.enough.take (k + 1) = d.enough.take k ++ [d.enough[k]]) := Lib.hid (List.take_succ_eq_append_getElem hlt)
        have HTL : Hid ((d.enough.take k).length = k) := Lib.hid (by rw [List.length_take]; omega)
        have hal : (d.enough.take k).length ≤ 1000 := by rw [HTL.out]; omega
        have hsz := HJ.out.1.size
        have hegl : eg < wr.heap.size := by omega
        clear a0 a1 a2 a3 a4 a5
        obtain ⟨A8, c8, rfl⟩ := HJ.out.2.form
        generalize d.enough[k] = G at *
        generalize d.enough.take k = L at *
        go_wp2_with fail
        refine (HCP.out G HG.out.1 _ _ ⟨_, _, rfl, HG.out.2.1.below ((Below.refl _ _).alloc (Nat.le_refl _) _), HG.out.2.2.below ((Below.refl _ _).alloc (Nat.le_refl _) _)⟩).mono ?_
        rintro e w2 ⟨v2, rfl, ⟨p2', q2', rfl, h2, h3⟩, h4⟩
        obtain ⟨A5, c5, rfl⟩ := h2.rws.form
        obtain ⟨A6, c6, rfl⟩ := h3.rws.form
        have hb2 : Below wr.heap.size wr w2 := ((Below.refl wr.heap.size wr).alloc (Nat.le_refl _) _).trans (h4.mono (by simp))
        have hsz2 := hb2.size
        have hsz4 := h4.size
        obtain ⟨us', hu1, hu2⟩ := HJ.out.2
        have hu3 := ownsRow_chg hu1 (Chg.of_below (S := fun _ => False) hb2) (fun _ _ h => h)
        have H2 := Lib.hid (And.intro (show RwsF (fun x => wr.heap.size ≤ x ∧ x < w2.heap.size) w2 (.slice A5 G.sig.parts.length c5) G.sig.parts from h2.mono (fun x hx => ⟨by have h9 := hx.1; simp at h9; omega, hx.2⟩)) (And.intro (show RwsF (fun x => wr.heap.size ≤ x ∧ x < w2.heap.size) w2 (.slice A6 G.sig.path.length c6) G.sig.path from h3.mono (fun x hx => ⟨by have h9 := hx.1; simp at h9; omega, hx.2⟩)) (And.intro hb2 (And.intro hu1 (And.intro hu2 hu3)))))
        clear h2 h3 h4 hb2 hu1 hu2 hu3 p0 p1 p2 p3
        go_wp2_with (at_builtin; (refine wpList_append_lie rfl (.tmp 24) (.tmp 27) 49 rfl w1.heap.size 47 i0 (.agg #[.int .i64 0, .int .i64 0, .slice none 0 0, .slice none 0 0]) 4 64 Tryz.underlying49 hi0 hz0 hz1 hz2 rfl (by decide) _ L.length us' rfl (World.ownsRow.alloc H2.out.2.2.2.2.2 _) _ 1 [.int .i64 G.wit, .int .i64 G.sig.index, .slice A5 G.sig.parts.length c5, .slice A6 G.sig.path.length c6] rfl ((Sho.new w2 47 [.int .i64 G.wit, .int .i64 G.sig.index, .slice A5 G.sig.parts.length c5, .slice A6 G.sig.path.length c6] 1 4 1 rfl (Nat.le_refl _) (by decide)).news (fun u hu => by simp at hu; rcases hu with rfl | rfl | rfl | rfl <;> rfl)) (by unfold maxLen; omega) (by omega) (by simp; omega) ?_); intro v3 W3 hown3 hgrow3 hlie3)
        have HN : Hid (Below w1.heap.size w1 W3 ∧ OwnC W3 w1.heap.size v3 (L ++ [G])) := Lib.hid (by
          have hcA : Chg w2 W3 (fun x => (Value.slice A8 L.length c8).ownBlock = some x) := ((Chg.refl w2 _).alloc _).trans (Chg.of_grown hgrow3) (fun i _ h => h.symm)
          have hlo : ∀ x, (Value.slice A8 L.length c8).ownBlock = some x → w1.heap.size ≤ x := fun x hx => (World.ownsRow.lt H2.out.2.2.2.1 x hx).1
          refine ⟨(HJ.out.1.trans (H2.out.2.2.1.mono hsz)).trans (hcA.below (by omega) hlo), ?_⟩
          refine OwnC.push H2.out.2.2.1 hsz H2.out.2.2.2.2.1 H2.out.2.2.2.1 (new := [.int .i64 G.wit, .int .i64 G.sig.index, .slice A5 G.sig.parts.length c5, .slice A6 G.sig.path.length c6]) ⟨rfl, fun i hi => ?_⟩ hown3 hcA ?_
          · obtain rfl : i = 0 := by simpa using hi
            exact ⟨_, _, rfl, rfl, rfl, rfl, H2.out.1, H2.out.2.1⟩
          · rcases hlie3 with e | ⟨q, e, hq⟩
            · exact .inl e
            · exact .inr ⟨q, e, by simp at hq; omega⟩)
        clear hown3 hgrow3 hlie3
        obtain ⟨A3, c3, rfl⟩ := HN.out.2.form
        go_roundw
        case rel => exact ⟨k + 1, by go_num, by omega, by rw [HT.out]; exact HN⟩
        case measure => simp [intOf]; omega
      · obtain rfl : k = d.enough.length := by omega
        have HO := HJ.out.2
        rw [List.take_length] at HO
        obtain ⟨A3, c3, rfl⟩ := HO.form
        have hb := HJ.out.1
        have kf := HW.out.1.below hb
        have kz := HW.out.2.1.below hb
        have H5 := Lib.hid (And.intro HO (And.intro hb (And.intro kf kz)))
        have e13 : wr.cell? ⟨f, 13, none⟩ = some (.int .i64 d.done.ck.num) := kf.blk.cell 13 _ rfl
        have e14 : wr.cell? ⟨f, 14, none⟩ = some (.slice R d.done.ck.root.length cr) := by rw [← HRC.out.1]; exact kf.blk.cell 14 _ rfl
        have e15 : wr.cell? ⟨f, 15, none⟩ = some (.int .i64 d.done.sig.index) := kf.blk.cell 15 _ rfl
        have e16 : wr.cell? ⟨f, 16, none⟩ = some (.slice P d.done.sig.parts.length cp) := by rw [← HRC.out.2.1]; exact kf.blk.cell 16 _ rfl
        have e17 : wr.cell? ⟨f, 17, none⟩ = some (.slice Q d.done.sig.path.length cq) := by rw [← HRC.out.2.2.1]; exact kf.blk.cell 17 _ rfl
        have hfl9 := kf.blk.lt
        clear HO hb kf kz HJ
        go_wp2_with fail
        refine (HCK.out _ _ ⟨_, _, _, rfl, by rw [← HRC.out.1]; exact H5.out.2.2.1.tx.dr.1, by rw [← HRC.out.2.1]; exact H5.out.2.2.1.tx.dp.rws, by rw [← HRC.out.2.2.1]; exact H5.out.2.2.1.tx.dq.rws⟩).mono ?_
        rintro e w3 ⟨v3, rfl, ⟨r3, p3, q3, rfl, h3, h4, h5⟩, h6⟩
        obtain ⟨B3, n3, rfl⟩ := h3.1.form
        obtain ⟨B4, n4, rfl⟩ := h4.rws.form
        obtain ⟨B5, n5, rfl⟩ := h5.rws.form
        have kz := H5.out.2.2.2.below h6
        have z0 := kz.cell 0 _ rfl
        have z1 := kz.cell 1 _ rfl
        have z2 := kz.cell 2 _ rfl
        have z3 := kz.cell 3 _ rfl
        have z4 := kz.cell 4 _ rfl
        have y0 := kz.free 0
        have y1 := kz.free 1
        have y2 := kz.free 2
        have y3 := kz.free 3
        have y4 := kz.free 4
        have hzl := kz.lt
        have H6 := Lib.hid (And.intro h3 (And.intro h4 (And.intro h5 (And.intro h6 kz))))
        clear h3 h4 h5 h6 kz
        have hch : Chg w3 (((((w3.setCell ⟨w.heap.size, 0, none⟩ (.int .i64 d.done.ck.num)).setCell ⟨w.heap.size, 1, none⟩ (.slice B3 d.done.ck.root.length n3)).setCell ⟨w.heap.size, 2, none⟩ (.int .i64 d.done.sig.index)).setCell ⟨w.heap.size, 3, none⟩ (.slice B4 d.done.sig.parts.length n4)).setCell ⟨w.heap.size, 4, none⟩ (.slice B5 d.done.sig.path.length n5)) (fun k => k = w.heap.size) := chg_cell (chg_cell (chg_cell (chg_cell (chg_cell (Chg.refl w3 _) 0 _) 1 _) 2 _) 3 _) 4 _
        have hfin : Blk (((((w3.setCell ⟨w.heap.size, 0, none⟩ (.int .i64 d.done.ck.num)).setCell ⟨w.heap.size, 1, none⟩ (.slice B3 d.done.ck.root.length n3)).setCell ⟨w.heap.size, 2, none⟩ (.int .i64 d.done.sig.index)).setCell ⟨w.heap.size, 3, none⟩ (.slice B4 d.done.sig.parts.length n4)).setCell ⟨w.heap.size, 4, none⟩ (.slice B5 d.done.sig.path.length n5)) w.heap.size 40 [.int .i64 d.done.ck.num, .slice B3 d.done.ck.root.length n3, .int .i64 d.done.sig.index, .slice B4 d.done.sig.parts.length n4, .slice B5 d.done.sig.path.length n5] := ((((H6.out.2.2.2.2.set 0 _ (by simp)).set 1 _ (by simp)).set 2 _ (by simp)).set 3 _ (by simp)).set 4 _ (by simp)
        have HF := Lib.hid (And.intro hch hfin)
        clear hch hfin
        go_wp2
        have hs13 := H5.out.2.1.size
        have hs36 := H6.out.2.2.2.1.size
        have hs4 := HF.out.1.size
        refine bodyPost_ret (v := .tuple #[.agg [.int .i64 d.done.ck.num, .slice B3 d.done.ck.root.length n3, .int .i64 d.done.sig.index, .slice B4 d.done.sig.parts.length n4, .slice B5 d.done.sig.path.length n5].toArray, .slice A3 d.enough.length c3, .bool true]) ?_ ?_ ?_
        · exact results_row_tmp2 Tryz.results14 _ _ w.heap.size 40 _ (0, 0) _ rfl HF.out.2 under_signed rfl size_signed _ _ rfl rfl
        · rfl
        · unfold DonPost
          rw [if_neg HPP.out, decide_eq_true hpos]
          refine ⟨_, _, _, _, rfl, ?_, ?_, ?_, ?_, ?_⟩
          · exact (H6.out.1.chg HF.out.1 (fun g hg e => by have h1 : wr.heap.size ≤ g := hg.1; have h2 : g = w.heap.size := e; omega)).1
          · exact (H6.out.2.1.chg HF.out.1 (fun g hg e => by have h1 : wr.heap.size ≤ g := hg.1; have h2 : g = w.heap.size := e; omega)).rws
          · exact (H6.out.2.2.1.chg HF.out.1 (fun g hg e => by have h1 : wr.heap.size ≤ g := hg.1; have h2 : g = w.heap.size := e; omega)).rws
          · obtain ⟨us9, o1, o2⟩ := (H5.out.1.below H6.out.2.2.2.1).mono (b' := w.heap.size) (by omega)
            obtain ⟨us8, o3, o4⟩ := H5.out.1.below H6.out.2.2.2.1
            have hne : ∀ x, (Value.slice A3 d.enough.length c3).ownBlock = some x → ¬ (x = w.heap.size) := fun x hx e => by have := (World.ownsRow.lt o3 x hx).1; omega
            exact ⟨us8, own_mono' (ownsRow_chg o3 HF.out.1 hne) (by omega), (o4.chg HF.out.1 (fun x hx e => by have := hx.1; omega)).mono (fun x hx => ⟨by have := hx.1; omega, by have := hx.2.1; omega, hx.2.2⟩)⟩
          · exact ((HW.out.2.2.trans (H5.out.2.1.mono (by omega))).trans (H6.out.2.2.2.1.mono (by omega))).trans (HF.out.1.below (by omega) (fun k hk => by omega))
end Go.Proofs.YtlkgeifmppadmaaGreat
namespace Go.Proofs.YtlkgeifmppadmaaGreat
open Go.RowKit
set_option linter.unusedVariables false
set_option linter.unusedSimpArgs false

/-- The witnesses that count among the first n. -/
def seenN (p : PolD) (c : CkD) (gs : List CgD) : Nat → List Int
  | 0 => []
  | n + 1 => if cgVerB p c (gs.getD n ⟨0, ⟨0, [], []⟩⟩) = true ∧ (gs.getD n ⟨0, ⟨0, [], []⟩⟩).wit ∉ seenN p c gs n then (gs.getD n ⟨0, ⟨0, [], []⟩⟩).wit :: seenN p c gs n else seenN p c gs n
def cellsS (s : List Int) : List Value := [.bool (decide ((0 : Int) ∈ s)), .bool (decide ((1 : Int) ∈ s)), .bool (decide ((2 : Int) ∈ s)), .bool (decide ((3 : Int) ∈ s))]
theorem cellsS_at (s : List Int) (k : Nat) (h : k < 4) : (cellsS s)[k]? = some (.bool (decide ((k : Int) ∈ s))) := by
  obtain rfl | rfl | rfl | rfl : k = 0 ∨ k = 1 ∨ k = 2 ∨ k = 3 := by omega
  all_goals rfl
theorem cellsS_set (s : List Int) (k : Nat) (h : k < 4) : (cellsS s).set k (.bool true) = cellsS ((k : Int) :: s) := by
  obtain rfl | rfl | rfl | rfl : k = 0 ∨ k = 1 ∨ k = 2 ∨ k = 3 := by omega
  all_goals simp [cellsS]
theorem seenN_le (p : PolD) (c : CkD) (gs : List CgD) : ∀ n, (seenN p c gs n).length ≤ n
  | 0 => Nat.le_refl _
  | n + 1 => by
    have := seenN_le p c gs n
    unfold seenN
    split
    · simp only [List.length_cons]; omega
    · omega
theorem cgVerB_wit {p : PolD} {c : CkD} {g : CgD} (h : cgVerB p c g = true) : 0 ≤ g.wit ∧ g.wit < 4 := by
  simp only [cgVerB, polB, Bool.and_eq_true, decide_eq_true_eq] at h
  omega
theorem make_bools (w : World) : (Instr.makeSlice 44 (.int .i64 4) (.int .i64 4)).run Tryz.prog w = .ok (.slice (some ⟨w.heap.size, 0, none⟩) 4 4) (w.alloc (.cells (cellsS []).toArray 4)) := by
  obtain ⟨i0, hi0, hz0, hz1, hz2⟩ := info_parts (show (Tryz.prog.info? 4).map (fun i => (i.zero, i.size, i.bytes)) = some (some (.bool false), 1, 1) by kernel_rfl)
  have hr := run_make (P := Tryz.prog) w 44 4 i0 _ Tryz.underlying44 hi0 hz0 .i64 .i64 4 4 (by omega) (Int.le_refl _) (by rw [hz2]; omega) (by omega)
  rw [hz1] at hr
  have e : madeCells (Value.bool false).cells (Int.toNat 4 * 1) = (cellsS []).toArray := by kernel_rfl
  rw [e] at hr
  exact hr
/-- Cosignatures shown. -/
def CgsV (w : World) (v : Value) (gs : List CgD) : Prop := ∃ us, Sho w v gs.length 4 us ∧ CgRow (fun _ => True) w us gs
theorem CgsV.below {w w1 : World} {v : Value} {gs : List CgD} (h : CgsV w v gs) (hb : Below w.heap.size w w1) : CgsV w1 v gs := by
  obtain ⟨us, h1, h2⟩ := h
  exact ⟨us, h1.below hb, ⟨h2.1, fun i hi => by obtain ⟨p, q, a0, a1, a2, a3, a4, a5⟩ := h2.2 i hi; exact ⟨p, q, a0, a1, a2, a3, a4.below hb, a5.below hb⟩⟩⟩
theorem OwnC.cgsv {w : World} {base : Nat} {v : Value} {ls : List CgD} (h : OwnC w base v ls) : CgsV w v ls := by
  obtain ⟨us, h1, h2⟩ := h
  exact ⟨us, Sho.own h1, h2.mono (fun _ _ => True.intro)⟩
theorem CgsV.form {w : World} {v : Value} {gs : List CgD} (h : CgsV w v gs) : ∃ A c, v = .slice A gs.length c := by
  obtain ⟨us, h1, _⟩ := h
  exact h1.form
theorem CgsV.get {w : World} {A : Option Addr} {n c : Nat} {gs : List CgD} (h : CgsV w (.slice A n c) gs) (h0 : 0 < gs.length) : ∃ g o, A = some ⟨g, o, none⟩ ∧ g < w.heap.size ∧ n = gs.length ∧ gs.length ≤ c ∧ c ≤ maxLen ∧ ∀ i, i < gs.length → ∃ P cp Q cq, w.cell? ⟨g, o + i * 4, none⟩ = some (.int .i64 (gs.getD i ⟨0, ⟨0, [], []⟩⟩).wit) ∧ w.cell? ⟨g, o + i * 4 + 1, none⟩ = some (.int .i64 (gs.getD i ⟨0, ⟨0, [], []⟩⟩).sig.index) ∧ w.cell? ⟨g, o + i * 4 + 2, none⟩ = some (.slice P (gs.getD i ⟨0, ⟨0, [], []⟩⟩).sig.parts.length cp) ∧ w.cell? ⟨g, o + i * 4 + 3, none⟩ = some (.slice Q (gs.getD i ⟨0, ⟨0, [], []⟩⟩).sig.path.length cq) ∧ Rws w (.slice P (gs.getD i ⟨0, ⟨0, [], []⟩⟩).sig.parts.length cp) (gs.getD i ⟨0, ⟨0, [], []⟩⟩).sig.parts ∧ Rws w (.slice Q (gs.getD i ⟨0, ⟨0, [], []⟩⟩).sig.path.length cq) (gs.getD i ⟨0, ⟨0, [], []⟩⟩).sig.path := by
  obtain ⟨us, h1, h2⟩ := h
  obtain ⟨g, o, rfl, e1, hg, hc, hm, hcell⟩ := h1.place h0
  refine ⟨g, o, rfl, hg, e1, hc, hm, fun i hi => ?_⟩
  obtain ⟨p, q, a0, a1, a2, a3, a4, a5⟩ := h2.2 i hi
  have e : gs.getD i ⟨0, ⟨0, [], []⟩⟩ = gs[i] := by rw [List.getD_eq_getElem?_getD, List.getElem?_eq_getElem hi]; rfl
  rw [e]
  obtain ⟨P, cp, rfl⟩ := a4.rws.form
  obtain ⟨Q, cq, rfl⟩ := a5.rws.form
  exact ⟨P, cp, Q, cq, hcell _ _ a0, hcell _ _ a1, hcell _ _ a2, hcell _ _ a3, a4.rws, a5.rws⟩
set_option maxRecDepth 100000 in
set_option maxHeartbeats 8000000 in
theorem rcount_any (vp vc vl : Value) (p : PolD) (c : CkD) (gs : List CgD) (hp : SmallPol p) (hr : c.root.length ≤ 100000000) (hs : ∀ g ∈ gs, SmallSig g.sig) (hgl : gs.length ≤ 1000000) (w : World) (hvp : PolV w vp p) (hvc : CkV w vc c) (hvl : CgsV w vl gs) :
    Calls Tryz.prog 15 #[vp, vc, vl] w fun e w' => e = .returned (.int .i64 ((seenN p c gs gs.length).length : Nat)) ∧ Below w.heap.size w w' := by
  have HCS := Lib.hid (fun (g : CgD) (hg : SmallSig g.sig) (wz : World) (vp vc vg : Value) (z1 : PolV wz vp p) (z2 : CkV wz vc c) (z3 : CgV wz vg g) => rcosigned_any vp vc vg p c g hp hr hg wz z1 z2 z3)
  have HMK := Lib.hid make_bools
  have HSM := Lib.hid hs
  obtain ⟨l, ws, rfl, h1, h2⟩ := hvp
  obtain ⟨L, cl, rfl⟩ := h1.form
  obtain ⟨R, cr, rfl⟩ := h2.form
  obtain ⟨rt, rfl, h3⟩ := hvc
  obtain ⟨T, ct, rfl⟩ := h3.form
  obtain ⟨A, ca, rfl⟩ := hvl.form
  have HX := Lib.hid (And.intro h1 (And.intro h2 (And.intro h3 hvl)))
  clear h1 h2 h3 hvl hp hr hs
  obtain ⟨b3, k1, k2, k3⟩ := blk3 w [.slice L p.log.length cl, .slice R p.wits.length cr, .int .i64 p.quorum] [.int .i64 c.num, .slice T c.root.length ct] (cellsS []) 29 36 4 _ rfl
  have HW := Lib.hid (And.intro k1 (And.intro k2 (And.intro k3 b3)))
  clear k1 k2 k3 b3
  have hmk := make_bools ((w.alloc (.cells #[.slice L p.log.length cl, .slice R p.wits.length cr, .int .i64 p.quorum] 29)).alloc (.cells #[.int .i64 c.num, .slice T c.root.length ct] 36))
  rw [show ((w.alloc (.cells #[.slice L p.log.length cl, .slice R p.wits.length cr, .int .i64 p.quorum] 29)).alloc (.cells #[.int .i64 c.num, .slice T c.root.length ct] 36)).heap.size = w.heap.size + 1 + 1 by simp] at hmk
  have HS0 : Hid (seenN p c gs 0 = []) := Lib.hid rfl
  have HSS : Hid (∀ i, seenN p c gs (i + 1) = if cgVerB p c (gs.getD i ⟨0, ⟨0, [], []⟩⟩) = true ∧ (gs.getD i ⟨0, ⟨0, [], []⟩⟩).wit ∉ seenN p c gs i then (gs.getD i ⟨0, ⟨0, [], []⟩⟩).wit :: seenN p c gs i else seenN p c gs i) := Lib.hid (fun i => rfl)
  have HSL := Lib.hid (fun i : Nat => seenN_le p c gs i)
  have HSW := Lib.hid (fun (g : CgD) (h : cgVerB p c g = true) => cgVerB_wit h)
  generalize seenN p c gs = sn at *
  go_enter Tryz.func15, Tryz.ntmps15
  go_wp2
  go_loopw [8, 9] (fun v8 v9 wr => ∃ i : Nat, v8 = .int .i64 ((sn i).length : Nat) ∧ v9 = .int .i64 i ∧ i ≤ gs.length ∧ Hid (Blk wr w.heap.size 29 [.slice L p.log.length cl, .slice R p.wits.length cr, .int .i64 p.quorum] ∧ Blk wr (w.heap.size + 1) 36 [.int .i64 c.num, .slice T c.root.length ct] ∧ Blk wr (w.heap.size + 1 + 1) 4 (cellsS (sn i)) ∧ Below w.heap.size w wr)) (fun _ v _ => gs.length - (intOf v).toNat)
  case atStart => exact ⟨0, by rw [HS0.out]; rfl, rfl, Nat.zero_le _, Lib.hid ⟨HW.out.1, HW.out.2.1, by rw [HS0.out]; exact HW.out.2.2.1, HW.out.2.2.2⟩⟩
  case round =>
    clear hmk HW
    obtain ⟨i, rfl, rfl, hi, HI⟩ := hrel
    have hsl := HSL.out i
    by_cases hlt : i < gs.length
    · obtain ⟨lg, lo, rfl, hlg, -, hroom, hroom2, hall⟩ := HX.out.2.2.2.get (by omega)
      obtain ⟨P1, cp1, Q1, cq1, e0, e1, e2, e3, e4, e5⟩ := hall i hlt
      have HGS : Hid (SmallSig (gs.getD i ⟨0, ⟨0, [], []⟩⟩).sig) := Lib.hid (HSM.out _ (by rw [List.getD_eq_getElem?_getD, List.getElem?_eq_getElem hlt]; exact List.getElem_mem hlt))
      have hss := HSS.out i
      have HE := Lib.hid (And.intro e0 (And.intro e1 (And.intro e2 (And.intro e3 (And.intro e4 e5)))))
      unfold maxLen at hroom2
      clear hall e0 e1 e2 e3 e4 e5
      have HWT := Lib.hid (HSW.out (gs.getD i ⟨0, ⟨0, [], []⟩⟩))
      have HCG := Lib.hid (HCS.out (gs.getD i ⟨0, ⟨0, [], []⟩⟩) HGS.out)
      have HSN := Lib.hid hss
      generalize hVB : cgVerB p c (gs.getD i ⟨0, ⟨0, [], []⟩⟩) = VB at *
      clear hss hVB
      generalize gs.getD i ⟨0, ⟨0, [], []⟩⟩ = G at *
      have z0 := HI.out.1.cell 0 _ rfl
      have z1 := HI.out.1.cell 1 _ rfl
      have z2 := HI.out.1.cell 2 _ rfl
      have z3 := HI.out.2.1.cell 0 _ rfl
      have z4 := HI.out.2.1.cell 1 _ rfl
      have z5 := (HI.out.2.2.2.cell (p := ⟨lg, lo + i * 4, none⟩) hlg).trans HE.out.1
      have z6 := (HI.out.2.2.2.cell (p := ⟨lg, lo + i * 4 + 1, none⟩) hlg).trans HE.out.2.1
      have z7 := (HI.out.2.2.2.cell (p := ⟨lg, lo + i * 4 + 2, none⟩) hlg).trans HE.out.2.2.1
      have z8 := (HI.out.2.2.2.cell (p := ⟨lg, lo + i * 4 + 3, none⟩) hlg).trans HE.out.2.2.2.1
      have hlw : lg < wr.heap.size := by have := HI.out.2.2.2.size; omega
      have hl1 := HI.out.1.lt
      have hl2 := HI.out.2.1.lt
      have hl3 := HI.out.2.2.1.lt
      cases VB with
      | false =>
        go_wp2
        refine wp_region_held_drew (S := fun w' => w'.cell? ⟨w.heap.size, 0, none⟩ = some (.slice L p.log.length cl) ∧ w'.cell? ⟨w.heap.size, 1, none⟩ = some (.slice R p.wits.length cr) ∧ w'.cell? ⟨w.heap.size, 2, none⟩ = some (.int .i64 p.quorum) ∧ w'.cell? ⟨w.heap.size + 1, 0, none⟩ = some (.int .i64 c.num) ∧ w'.cell? ⟨w.heap.size + 1, 1, none⟩ = some (.slice T c.root.length ct) ∧ w'.cell? ⟨lg, lo + i * 4, none⟩ = some (.int .i64 G.wit) ∧ w'.cell? ⟨lg, lo + i * 4 + 1, none⟩ = some (.int .i64 G.sig.index) ∧ w'.cell? ⟨lg, lo + i * 4 + 2, none⟩ = some (.slice P1 G.sig.parts.length cp1) ∧ w'.cell? ⟨lg, lo + i * 4 + 3, none⟩ = some (.slice Q1 G.sig.path.length cq1)) (by kernel_rfl) ?_ (fun hHeld => ?_)
        · exact ⟨z0, z1, z2, z3, z4, z5, z6, z7, z8⟩
        refine take_yes 0 17 rfl rfl (by kernel_rfl) (by kernel_rfl) (by kernel_rfl) (fun _ _ _ h => h) (by assumption) (by rfl) (v := ?_) ?_ ?_
        rotate_left 1
        · (intro w hSw; (try dsimp only at hSw); go_simp; try with_reducible rfl)
        simp only [List.setIfInBounds_toArray, List.set_cons_zero, List.set_cons_succ]
        refine take_yes 1 18 rfl rfl (by kernel_rfl) (by kernel_rfl) (by kernel_rfl) (fun _ _ _ h => h) (by assumption) (by rfl) (v := ?_) ?_ ?_
        rotate_left 1
        · (intro w hSw; (try dsimp only at hSw); go_simp; try with_reducible rfl)
        simp only [List.setIfInBounds_toArray, List.set_cons_zero, List.set_cons_succ]
        refine take_yes 2 19 rfl rfl (by kernel_rfl) (by kernel_rfl) (by kernel_rfl) (fun _ _ _ h => h) (by assumption) (by rfl) (v := ?_) ?_ ?_
        rotate_left 1
        · (intro w hSw; (try dsimp only at hSw); go_simp; try with_reducible rfl)
        simp only [List.setIfInBounds_toArray, List.set_cons_zero, List.set_cons_succ]
        refine take_yes 3 20 rfl rfl (by kernel_rfl) (by kernel_rfl) (by kernel_rfl) (fun _ _ _ h => h) (by assumption) (by rfl) (v := ?_) ?_ ?_
        rotate_left 1
        · (intro w hSw; (try dsimp only at hSw); go_simp; try with_reducible rfl)
        simp only [List.setIfInBounds_toArray, List.set_cons_zero, List.set_cons_succ]
        refine take_yes 4 21 rfl rfl (by kernel_rfl) (by kernel_rfl) (by kernel_rfl) (fun _ _ _ h => h) (by assumption) (by rfl) (v := ?_) ?_ ?_
        rotate_left 1
        · (intro w hSw; (try dsimp only at hSw); go_simp; try with_reducible rfl)
        simp only [List.setIfInBounds_toArray, List.set_cons_zero, List.set_cons_succ]
        refine take_yes 5 22 rfl rfl (by kernel_rfl) (by kernel_rfl) (by kernel_rfl) (fun _ _ _ h => h) (by assumption) (by rfl) (v := ?_) ?_ ?_
        rotate_left 1
        · (intro w hSw; (try dsimp only at hSw); go_simp; try with_reducible rfl)
        simp only [List.setIfInBounds_toArray, List.set_cons_zero, List.set_cons_succ]
        refine wpAnyH_ready (rs := [6]) (by kernel_rfl) (by simp) ?_
        refine AllReadyH.cons rfl (fun K hK => ?_) AllReadyH.nil
        -- 6:  dst := some 23, op := Op.call  callee := Callee.value (Operand.func 34), args := #[Operand.tmp 17, Operand.tmp 18, Operand.tmp 
        go_simp
        go_at_call 34
        refine (HCG.out wr.drew _ _ _ ⟨_, _, rfl, (HX.out.1.below HI.out.2.2.2).below (Below.refl wr.heap.size wr).drew, (HX.out.2.1.below HI.out.2.2.2).below (Below.refl wr.heap.size wr).drew⟩ ⟨_, rfl, (HX.out.2.2.1.below HI.out.2.2.2).below (Below.refl wr.heap.size wr).drew⟩ ⟨_, _, rfl, (HE.out.2.2.2.2.1.below HI.out.2.2.2).below (Below.refl wr.heap.size wr).drew, (HE.out.2.2.2.2.2.below HI.out.2.2.2).below (Below.refl wr.heap.size wr).drew⟩).mono ?_
        rintro e w1 ⟨rfl, hb'⟩
        have hh : Below wr.heap.size wr w1 := ⟨hb'.os, hb'.tape, hb'.output, hb'.size, hb'.block⟩
        have H1 := Lib.hid (And.intro (HI.out.1.below hh) (And.intro (HI.out.2.1.below hh) (And.intro (HI.out.2.2.1.below hh) (HI.out.2.2.2.trans (hh.mono HI.out.2.2.2.size)))))
        have x0 := H1.out.1.cell 0 _ rfl
        have x1 := H1.out.1.cell 1 _ rfl
        have x2 := H1.out.1.cell 2 _ rfl
        have x3 := H1.out.2.1.cell 0 _ rfl
        have x4 := H1.out.2.1.cell 1 _ rfl
        have x5 := (hh.cell (p := ⟨lg, lo + i * 4, none⟩) hlw).trans z5
        have x6 := (hh.cell (p := ⟨lg, lo + i * 4 + 1, none⟩) hlw).trans z6
        have x7 := (hh.cell (p := ⟨lg, lo + i * 4 + 2, none⟩) hlw).trans z7
        have x8 := (hh.cell (p := ⟨lg, lo + i * 4 + 3, none⟩) hlw).trans z8
        have hlw1 : lg < w1.heap.size := by have := hh.size; omega
        clear hh hb'
        try dsimp only
        refine hK.out _ _ ⟨x0, x1, x2, x3, x4, x5, x6, x7, x8⟩ (fun hHeld6 => ?_)
        clear hK K
        try simp only [Act.put, List.setIfInBounds_toArray, List.set_cons_zero, List.set_cons_succ]
        refine take_yes 7 24 rfl rfl (by kernel_rfl) (by kernel_rfl) (by kernel_rfl) (fun _ _ _ h => h) (by assumption) (by rfl) (v := ?_) ?_ ?_
        rotate_left 1
        · (intro w hSw; (try dsimp only at hSw); go_simp; try with_reducible rfl)
        simp only [List.setIfInBounds_toArray, List.set_cons_zero, List.set_cons_succ]
        refine take_no 8 25 rfl rfl (by kernel_rfl) (by kernel_rfl) (by kernel_rfl) (fun _ _ _ h => h) (by assumption) (by rfl) ?_
        simp only [List.setIfInBounds_toArray, List.set_cons_zero, List.set_cons_succ]
        refine take_no 9 26 rfl rfl (by kernel_rfl) (by kernel_rfl) (by kernel_rfl) (fun _ _ _ h => h) (by assumption) (by rfl) ?_
        simp only [List.setIfInBounds_toArray, List.set_cons_zero, List.set_cons_succ]
        refine take_no 10 27 rfl rfl (by kernel_rfl) (by kernel_rfl) (by kernel_rfl) (fun _ _ _ h => h) (by assumption) (by rfl) ?_
        simp only [List.setIfInBounds_toArray, List.set_cons_zero, List.set_cons_succ]
        refine take_no 11 28 rfl rfl (by kernel_rfl) (by kernel_rfl) (by kernel_rfl) (fun _ _ _ h => h) (by assumption) (by rfl) ?_
        simp only [List.setIfInBounds_toArray, List.set_cons_zero, List.set_cons_succ]
        refine take_no 12 29 rfl rfl (by kernel_rfl) (by kernel_rfl) (by kernel_rfl) (fun _ _ _ h => h) (by assumption) (by rfl) ?_
        simp only [List.setIfInBounds_toArray, List.set_cons_zero, List.set_cons_succ]
        refine take_no 13 30 rfl rfl (by kernel_rfl) (by kernel_rfl) (by kernel_rfl) (fun _ _ _ h => h) (by assumption) (by rfl) ?_
        simp only [List.setIfInBounds_toArray, List.set_cons_zero, List.set_cons_succ]
        refine take_no 14 31 rfl rfl (by kernel_rfl) (by kernel_rfl) (by kernel_rfl) (fun _ _ _ h => h) (by assumption) (by rfl) ?_
        simp only [List.setIfInBounds_toArray, List.set_cons_zero, List.set_cons_succ]
        refine take_no 15 32 rfl rfl (by kernel_rfl) (by kernel_rfl) (by kernel_rfl) (fun _ _ _ h => h) (by assumption) (by rfl) ?_
        simp only [List.setIfInBounds_toArray, List.set_cons_zero, List.set_cons_succ]
        refine take_no 16 33 rfl rfl (by kernel_rfl) (by kernel_rfl) (by kernel_rfl) (fun _ _ _ h => h) (by assumption) (by rfl) ?_
        simp only [List.setIfInBounds_toArray, List.set_cons_zero, List.set_cons_succ]
        refine take_yes 17 34 rfl rfl (by kernel_rfl) (by kernel_rfl) (by kernel_rfl) (fun _ _ _ h => h) (by assumption) (by rfl) (v := ?_) ?_ ?_
        rotate_left 1
        · (intro w hSw; (try dsimp only at hSw); go_simp; try with_reducible rfl)
        simp only [List.setIfInBounds_toArray, List.set_cons_zero, List.set_cons_succ]
        refine wpAnyH_done (by kernel_rfl) ?_ _
        clear hHeld z0 z1 z2 z3 z4 z5 z6 z7 z8 x0 x1 x2 x3 x4 x5 x6 x7 x8
        have HT : Hid (sn (i + 1) = sn i) := Lib.hid (by rw [HSN.out, if_neg (by simp)])
        go_wp2
        go_roundw
        case rel => exact ⟨i + 1, by rw [HT.out], by go_num, by omega, by rw [HT.out]; exact H1⟩
        case measure => simp [intOf]; omega
      | true =>
        obtain ⟨hw0, hw1⟩ := HWT.out rfl
        obtain ⟨k, hk⟩ := Int.eq_ofNat_of_zero_le hw0
        have HK := Lib.hid hk
        rw [hk] at z5 hw1
        have hk4 : k < 4 := by omega
        have z9 := HI.out.2.2.1.cell k _ (cellsS_at (sn i) k hk4)
        by_cases hin : (k : Int) ∈ sn i
        · rw [decide_eq_true hin] at z9
          have HT : Hid (sn (i + 1) = sn i) := Lib.hid (by rw [HSN.out, if_neg (by rw [hk]; simp [hin])])
          clear hk hin
          go_wp2
          refine wp_region_held_drew (S := fun w' => w'.cell? ⟨w.heap.size, 0, none⟩ = some (.slice L p.log.length cl) ∧ w'.cell? ⟨w.heap.size, 1, none⟩ = some (.slice R p.wits.length cr) ∧ w'.cell? ⟨w.heap.size, 2, none⟩ = some (.int .i64 p.quorum) ∧ w'.cell? ⟨w.heap.size + 1, 0, none⟩ = some (.int .i64 c.num) ∧ w'.cell? ⟨w.heap.size + 1, 1, none⟩ = some (.slice T c.root.length ct) ∧ w'.cell? ⟨lg, lo + i * 4, none⟩ = some (.int .i64 k) ∧ w'.cell? ⟨lg, lo + i * 4 + 1, none⟩ = some (.int .i64 G.sig.index) ∧ w'.cell? ⟨lg, lo + i * 4 + 2, none⟩ = some (.slice P1 G.sig.parts.length cp1) ∧ w'.cell? ⟨lg, lo + i * 4 + 3, none⟩ = some (.slice Q1 G.sig.path.length cq1) ∧ w'.cell? ⟨w.heap.size + 1 + 1, k, none⟩ = some (.bool true)) (by kernel_rfl) ?_ (fun hHeld => ?_)
          · exact ⟨z0, z1, z2, z3, z4, z5, z6, z7, z8, z9⟩
          refine take_yes 0 17 rfl rfl (by kernel_rfl) (by kernel_rfl) (by kernel_rfl) (fun _ _ _ h => h) (by assumption) (by rfl) (v := ?_) ?_ ?_
          rotate_left 1
          · (intro w hSw; (try dsimp only at hSw); go_simp; try with_reducible rfl)
          simp only [List.setIfInBounds_toArray, List.set_cons_zero, List.set_cons_succ]
          refine take_yes 1 18 rfl rfl (by kernel_rfl) (by kernel_rfl) (by kernel_rfl) (fun _ _ _ h => h) (by assumption) (by rfl) (v := ?_) ?_ ?_
          rotate_left 1
          · (intro w hSw; (try dsimp only at hSw); go_simp; try with_reducible rfl)
          simp only [List.setIfInBounds_toArray, List.set_cons_zero, List.set_cons_succ]
          refine take_yes 2 19 rfl rfl (by kernel_rfl) (by kernel_rfl) (by kernel_rfl) (fun _ _ _ h => h) (by assumption) (by rfl) (v := ?_) ?_ ?_
          rotate_left 1
          · (intro w hSw; (try dsimp only at hSw); go_simp; try with_reducible rfl)
          simp only [List.setIfInBounds_toArray, List.set_cons_zero, List.set_cons_succ]
          refine take_yes 3 20 rfl rfl (by kernel_rfl) (by kernel_rfl) (by kernel_rfl) (fun _ _ _ h => h) (by assumption) (by rfl) (v := ?_) ?_ ?_
          rotate_left 1
          · (intro w hSw; (try dsimp only at hSw); go_simp; try with_reducible rfl)
          simp only [List.setIfInBounds_toArray, List.set_cons_zero, List.set_cons_succ]
          refine take_yes 4 21 rfl rfl (by kernel_rfl) (by kernel_rfl) (by kernel_rfl) (fun _ _ _ h => h) (by assumption) (by rfl) (v := ?_) ?_ ?_
          rotate_left 1
          · (intro w hSw; (try dsimp only at hSw); go_simp; try with_reducible rfl)
          simp only [List.setIfInBounds_toArray, List.set_cons_zero, List.set_cons_succ]
          refine take_yes 5 22 rfl rfl (by kernel_rfl) (by kernel_rfl) (by kernel_rfl) (fun _ _ _ h => h) (by assumption) (by rfl) (v := ?_) ?_ ?_
          rotate_left 1
          · (intro w hSw; (try dsimp only at hSw); go_simp; try with_reducible rfl)
          simp only [List.setIfInBounds_toArray, List.set_cons_zero, List.set_cons_succ]
          refine wpAnyH_ready (rs := [6]) (by kernel_rfl) (by simp) ?_
          refine AllReadyH.cons rfl (fun K hK => ?_) AllReadyH.nil
          -- 6:  dst := some 23, op := Op.call  callee := Callee.value (Operand.func 34), args := #[Operand.tmp 17, Operand.tmp 18, Operand.tmp 
          go_simp
          go_at_call 34
          refine (HCG.out wr.drew _ _ _ ⟨_, _, rfl, (HX.out.1.below HI.out.2.2.2).below (Below.refl wr.heap.size wr).drew, (HX.out.2.1.below HI.out.2.2.2).below (Below.refl wr.heap.size wr).drew⟩ ⟨_, rfl, (HX.out.2.2.1.below HI.out.2.2.2).below (Below.refl wr.heap.size wr).drew⟩ ⟨_, _, by rw [HK.out], (HE.out.2.2.2.2.1.below HI.out.2.2.2).below (Below.refl wr.heap.size wr).drew, (HE.out.2.2.2.2.2.below HI.out.2.2.2).below (Below.refl wr.heap.size wr).drew⟩).mono ?_
          rintro e w1 ⟨rfl, hb'⟩
          have hh : Below wr.heap.size wr w1 := ⟨hb'.os, hb'.tape, hb'.output, hb'.size, hb'.block⟩
          have H1 := Lib.hid (And.intro (HI.out.1.below hh) (And.intro (HI.out.2.1.below hh) (And.intro (HI.out.2.2.1.below hh) (HI.out.2.2.2.trans (hh.mono HI.out.2.2.2.size)))))
          have x0 := H1.out.1.cell 0 _ rfl
          have x1 := H1.out.1.cell 1 _ rfl
          have x2 := H1.out.1.cell 2 _ rfl
          have x3 := H1.out.2.1.cell 0 _ rfl
          have x4 := H1.out.2.1.cell 1 _ rfl
          have x5 := (hh.cell (p := ⟨lg, lo + i * 4, none⟩) hlw).trans z5
          have x6 := (hh.cell (p := ⟨lg, lo + i * 4 + 1, none⟩) hlw).trans z6
          have x7 := (hh.cell (p := ⟨lg, lo + i * 4 + 2, none⟩) hlw).trans z7
          have x8 := (hh.cell (p := ⟨lg, lo + i * 4 + 3, none⟩) hlw).trans z8
          have x9 := (hh.cell (p := ⟨w.heap.size + 1 + 1, k, none⟩) hl3).trans z9
          have hlw1 : lg < w1.heap.size := by have := hh.size; omega
          clear hh hb'
          try dsimp only
          refine hK.out _ _ ⟨x0, x1, x2, x3, x4, x5, x6, x7, x8, x9⟩ (fun hHeld6 => ?_)
          clear hK K
          try simp only [Act.put, List.setIfInBounds_toArray, List.set_cons_zero, List.set_cons_succ]
          refine take_yes 7 24 rfl rfl (by kernel_rfl) (by kernel_rfl) (by kernel_rfl) (fun _ _ _ h => h) (by assumption) (by rfl) (v := ?_) ?_ ?_
          rotate_left 1
          · (intro w hSw; (try dsimp only at hSw); go_simp; try with_reducible rfl)
          simp only [List.setIfInBounds_toArray, List.set_cons_zero, List.set_cons_succ]
          refine take_yes 8 25 rfl rfl (by kernel_rfl) (by kernel_rfl) (by kernel_rfl) (fun _ _ _ h => h) (by assumption) (by rfl) (v := ?_) ?_ ?_
          rotate_left 1
          · (intro w hSw; (try dsimp only at hSw); go_simp; try with_reducible rfl)
          simp only [List.setIfInBounds_toArray, List.set_cons_zero, List.set_cons_succ]
          refine take_yes 9 26 rfl rfl (by kernel_rfl) (by kernel_rfl) (by kernel_rfl) (fun _ _ _ h => h) (by assumption) (by rfl) (v := ?_) ?_ ?_
          rotate_left 1
          · (intro w hSw; (try dsimp only at hSw); go_simp; try with_reducible rfl)
          simp only [List.setIfInBounds_toArray, List.set_cons_zero, List.set_cons_succ]
          refine take_yes 10 27 rfl rfl (by kernel_rfl) (by kernel_rfl) (by kernel_rfl) (fun _ _ _ h => h) (by assumption) (by rfl) (v := ?_) ?_ ?_
          rotate_left 1
          · (intro w hSw; (try dsimp only at hSw); go_simp; try with_reducible rfl)
          simp only [List.setIfInBounds_toArray, List.set_cons_zero, List.set_cons_succ]
          refine take_yes 11 28 rfl rfl (by kernel_rfl) (by kernel_rfl) (by kernel_rfl) (fun _ _ _ h => h) (by assumption) (by rfl) (v := ?_) ?_ ?_
          rotate_left 1
          · (intro w hSw; (try dsimp only at hSw); go_simp; try with_reducible rfl)
          simp only [List.setIfInBounds_toArray, List.set_cons_zero, List.set_cons_succ]
          refine take_yes 12 29 rfl rfl (by kernel_rfl) (by kernel_rfl) (by kernel_rfl) (fun _ _ _ h => h) (by assumption) (by rfl) (v := ?_) ?_ ?_
          rotate_left 1
          · (intro w hSw; (try dsimp only at hSw); go_simp; try with_reducible rfl)
          simp only [List.setIfInBounds_toArray, List.set_cons_zero, List.set_cons_succ]
          refine take_yes 13 30 rfl rfl (by kernel_rfl) (by kernel_rfl) (by kernel_rfl) (fun _ _ _ h => h) (by assumption) (by rfl) (v := ?_) ?_ ?_
          rotate_left 1
          · (intro w hSw; (try dsimp only at hSw); go_simp; try with_reducible rfl)
          simp only [List.setIfInBounds_toArray, List.set_cons_zero, List.set_cons_succ]
          refine take_yes 14 31 rfl rfl (by kernel_rfl) (by kernel_rfl) (by kernel_rfl) (fun _ _ _ h => h) (by assumption) (by rfl) (v := ?_) ?_ ?_
          rotate_left 1
          · (intro w hSw; (try dsimp only at hSw); go_simp; try with_reducible rfl)
          simp only [List.setIfInBounds_toArray, List.set_cons_zero, List.set_cons_succ]
          refine take_yes 15 32 rfl rfl (by kernel_rfl) (by kernel_rfl) (by kernel_rfl) (fun _ _ _ h => h) (by assumption) (by rfl) (v := ?_) ?_ ?_
          rotate_left 1
          · (intro w hSw; (try dsimp only at hSw); go_simp; try with_reducible rfl)
          simp only [List.setIfInBounds_toArray, List.set_cons_zero, List.set_cons_succ]
          refine take_yes 16 33 rfl rfl (by kernel_rfl) (by kernel_rfl) (by kernel_rfl) (fun _ _ _ h => h) (by assumption) (by rfl) (v := ?_) ?_ ?_
          rotate_left 1
          · (intro w hSw; (try dsimp only at hSw); go_simp; try with_reducible rfl)
          simp only [List.setIfInBounds_toArray, List.set_cons_zero, List.set_cons_succ]
          refine take_yes 17 34 rfl rfl (by kernel_rfl) (by kernel_rfl) (by kernel_rfl) (fun _ _ _ h => h) (by assumption) (by rfl) (v := ?_) ?_ ?_
          rotate_left 1
          · (intro w hSw; (try dsimp only at hSw); go_simp; try with_reducible rfl)
          simp only [List.setIfInBounds_toArray, List.set_cons_zero, List.set_cons_succ]
          refine wpAnyH_done (by kernel_rfl) ?_ _
          clear hHeld z0 z1 z2 z3 z4 z5 z6 z7 z8 x0 x1 x2 x3 x4 x5 x6 x7 x8 z9 x9
          go_wp2
          go_roundw
          case rel => exact ⟨i + 1, by rw [HT.out], by go_num, by omega, by rw [HT.out]; exact H1⟩
          case measure => simp [intOf]; omega
        · rw [decide_eq_false hin] at z9
          have HT : Hid (sn (i + 1) = (k : Int) :: sn i) := Lib.hid (by rw [HSN.out, if_pos ⟨rfl, by rw [hk]; exact hin⟩, hk])
          clear hk hin
          go_wp2
          refine wp_region_held_drew (S := fun w' => w'.cell? ⟨w.heap.size, 0, none⟩ = some (.slice L p.log.length cl) ∧ w'.cell? ⟨w.heap.size, 1, none⟩ = some (.slice R p.wits.length cr) ∧ w'.cell? ⟨w.heap.size, 2, none⟩ = some (.int .i64 p.quorum) ∧ w'.cell? ⟨w.heap.size + 1, 0, none⟩ = some (.int .i64 c.num) ∧ w'.cell? ⟨w.heap.size + 1, 1, none⟩ = some (.slice T c.root.length ct) ∧ w'.cell? ⟨lg, lo + i * 4, none⟩ = some (.int .i64 k) ∧ w'.cell? ⟨lg, lo + i * 4 + 1, none⟩ = some (.int .i64 G.sig.index) ∧ w'.cell? ⟨lg, lo + i * 4 + 2, none⟩ = some (.slice P1 G.sig.parts.length cp1) ∧ w'.cell? ⟨lg, lo + i * 4 + 3, none⟩ = some (.slice Q1 G.sig.path.length cq1) ∧ w'.cell? ⟨w.heap.size + 1 + 1, k, none⟩ = some (.bool false)) (by kernel_rfl) ?_ (fun hHeld => ?_)
          · exact ⟨z0, z1, z2, z3, z4, z5, z6, z7, z8, z9⟩
          refine take_yes 0 17 rfl rfl (by kernel_rfl) (by kernel_rfl) (by kernel_rfl) (fun _ _ _ h => h) (by assumption) (by rfl) (v := ?_) ?_ ?_
          rotate_left 1
          · (intro w hSw; (try dsimp only at hSw); go_simp; try with_reducible rfl)
          simp only [List.setIfInBounds_toArray, List.set_cons_zero, List.set_cons_succ]
          refine take_yes 1 18 rfl rfl (by kernel_rfl) (by kernel_rfl) (by kernel_rfl) (fun _ _ _ h => h) (by assumption) (by rfl) (v := ?_) ?_ ?_
          rotate_left 1
          · (intro w hSw; (try dsimp only at hSw); go_simp; try with_reducible rfl)
          simp only [List.setIfInBounds_toArray, List.set_cons_zero, List.set_cons_succ]
          refine take_yes 2 19 rfl rfl (by kernel_rfl) (by kernel_rfl) (by kernel_rfl) (fun _ _ _ h => h) (by assumption) (by rfl) (v := ?_) ?_ ?_
          rotate_left 1
          · (intro w hSw; (try dsimp only at hSw); go_simp; try with_reducible rfl)
          simp only [List.setIfInBounds_toArray, List.set_cons_zero, List.set_cons_succ]
          refine take_yes 3 20 rfl rfl (by kernel_rfl) (by kernel_rfl) (by kernel_rfl) (fun _ _ _ h => h) (by assumption) (by rfl) (v := ?_) ?_ ?_
          rotate_left 1
          · (intro w hSw; (try dsimp only at hSw); go_simp; try with_reducible rfl)
          simp only [List.setIfInBounds_toArray, List.set_cons_zero, List.set_cons_succ]
          refine take_yes 4 21 rfl rfl (by kernel_rfl) (by kernel_rfl) (by kernel_rfl) (fun _ _ _ h => h) (by assumption) (by rfl) (v := ?_) ?_ ?_
          rotate_left 1
          · (intro w hSw; (try dsimp only at hSw); go_simp; try with_reducible rfl)
          simp only [List.setIfInBounds_toArray, List.set_cons_zero, List.set_cons_succ]
          refine take_yes 5 22 rfl rfl (by kernel_rfl) (by kernel_rfl) (by kernel_rfl) (fun _ _ _ h => h) (by assumption) (by rfl) (v := ?_) ?_ ?_
          rotate_left 1
          · (intro w hSw; (try dsimp only at hSw); go_simp; try with_reducible rfl)
          simp only [List.setIfInBounds_toArray, List.set_cons_zero, List.set_cons_succ]
          refine wpAnyH_ready (rs := [6]) (by kernel_rfl) (by simp) ?_
          refine AllReadyH.cons rfl (fun K hK => ?_) AllReadyH.nil
          -- 6:  dst := some 23, op := Op.call  callee := Callee.value (Operand.func 34), args := #[Operand.tmp 17, Operand.tmp 18, Operand.tmp 
          go_simp
          go_at_call 34
          refine (HCG.out wr.drew _ _ _ ⟨_, _, rfl, (HX.out.1.below HI.out.2.2.2).below (Below.refl wr.heap.size wr).drew, (HX.out.2.1.below HI.out.2.2.2).below (Below.refl wr.heap.size wr).drew⟩ ⟨_, rfl, (HX.out.2.2.1.below HI.out.2.2.2).below (Below.refl wr.heap.size wr).drew⟩ ⟨_, _, by rw [HK.out], (HE.out.2.2.2.2.1.below HI.out.2.2.2).below (Below.refl wr.heap.size wr).drew, (HE.out.2.2.2.2.2.below HI.out.2.2.2).below (Below.refl wr.heap.size wr).drew⟩).mono ?_
          rintro e w1 ⟨rfl, hb'⟩
          have hh : Below wr.heap.size wr w1 := ⟨hb'.os, hb'.tape, hb'.output, hb'.size, hb'.block⟩
          have H1 := Lib.hid (And.intro (HI.out.1.below hh) (And.intro (HI.out.2.1.below hh) (And.intro (HI.out.2.2.1.below hh) (HI.out.2.2.2.trans (hh.mono HI.out.2.2.2.size)))))
          have x0 := H1.out.1.cell 0 _ rfl
          have x1 := H1.out.1.cell 1 _ rfl
          have x2 := H1.out.1.cell 2 _ rfl
          have x3 := H1.out.2.1.cell 0 _ rfl
          have x4 := H1.out.2.1.cell 1 _ rfl
          have x5 := (hh.cell (p := ⟨lg, lo + i * 4, none⟩) hlw).trans z5
          have x6 := (hh.cell (p := ⟨lg, lo + i * 4 + 1, none⟩) hlw).trans z6
          have x7 := (hh.cell (p := ⟨lg, lo + i * 4 + 2, none⟩) hlw).trans z7
          have x8 := (hh.cell (p := ⟨lg, lo + i * 4 + 3, none⟩) hlw).trans z8
          have x9 := (hh.cell (p := ⟨w.heap.size + 1 + 1, k, none⟩) hl3).trans z9
          have hlw1 : lg < w1.heap.size := by have := hh.size; omega
          clear hh hb'
          try dsimp only
          refine hK.out _ _ ⟨x0, x1, x2, x3, x4, x5, x6, x7, x8, x9⟩ (fun hHeld6 => ?_)
          clear hK K
          try simp only [Act.put, List.setIfInBounds_toArray, List.set_cons_zero, List.set_cons_succ]
          refine take_yes 7 24 rfl rfl (by kernel_rfl) (by kernel_rfl) (by kernel_rfl) (fun _ _ _ h => h) (by assumption) (by rfl) (v := ?_) ?_ ?_
          rotate_left 1
          · (intro w hSw; (try dsimp only at hSw); go_simp; try with_reducible rfl)
          simp only [List.setIfInBounds_toArray, List.set_cons_zero, List.set_cons_succ]
          refine take_yes 8 25 rfl rfl (by kernel_rfl) (by kernel_rfl) (by kernel_rfl) (fun _ _ _ h => h) (by assumption) (by rfl) (v := ?_) ?_ ?_
          rotate_left 1
          · (intro w hSw; (try dsimp only at hSw); go_simp; try with_reducible rfl)
          simp only [List.setIfInBounds_toArray, List.set_cons_zero, List.set_cons_succ]
          refine take_yes 9 26 rfl rfl (by kernel_rfl) (by kernel_rfl) (by kernel_rfl) (fun _ _ _ h => h) (by assumption) (by rfl) (v := ?_) ?_ ?_
          rotate_left 1
          · (intro w hSw; (try dsimp only at hSw); go_simp; try with_reducible rfl)
          simp only [List.setIfInBounds_toArray, List.set_cons_zero, List.set_cons_succ]
          refine take_yes 10 27 rfl rfl (by kernel_rfl) (by kernel_rfl) (by kernel_rfl) (fun _ _ _ h => h) (by assumption) (by rfl) (v := ?_) ?_ ?_
          rotate_left 1
          · (intro w hSw; (try dsimp only at hSw); go_simp; try with_reducible rfl)
          simp only [List.setIfInBounds_toArray, List.set_cons_zero, List.set_cons_succ]
          refine take_yes 11 28 rfl rfl (by kernel_rfl) (by kernel_rfl) (by kernel_rfl) (fun _ _ _ h => h) (by assumption) (by rfl) (v := ?_) ?_ ?_
          rotate_left 1
          · (intro w hSw; (try dsimp only at hSw); go_simp; try with_reducible rfl)
          simp only [List.setIfInBounds_toArray, List.set_cons_zero, List.set_cons_succ]
          refine take_yes 12 29 rfl rfl (by kernel_rfl) (by kernel_rfl) (by kernel_rfl) (fun _ _ _ h => h) (by assumption) (by rfl) (v := ?_) ?_ ?_
          rotate_left 1
          · (intro w hSw; (try dsimp only at hSw); go_simp; try with_reducible rfl)
          simp only [List.setIfInBounds_toArray, List.set_cons_zero, List.set_cons_succ]
          refine take_yes 13 30 rfl rfl (by kernel_rfl) (by kernel_rfl) (by kernel_rfl) (fun _ _ _ h => h) (by assumption) (by rfl) (v := ?_) ?_ ?_
          rotate_left 1
          · (intro w hSw; (try dsimp only at hSw); go_simp; try with_reducible rfl)
          simp only [List.setIfInBounds_toArray, List.set_cons_zero, List.set_cons_succ]
          refine take_yes 14 31 rfl rfl (by kernel_rfl) (by kernel_rfl) (by kernel_rfl) (fun _ _ _ h => h) (by assumption) (by rfl) (v := ?_) ?_ ?_
          rotate_left 1
          · (intro w hSw; (try dsimp only at hSw); go_simp; try with_reducible rfl)
          simp only [List.setIfInBounds_toArray, List.set_cons_zero, List.set_cons_succ]
          refine take_yes 15 32 rfl rfl (by kernel_rfl) (by kernel_rfl) (by kernel_rfl) (fun _ _ _ h => h) (by assumption) (by rfl) (v := ?_) ?_ ?_
          rotate_left 1
          · (intro w hSw; (try dsimp only at hSw); go_simp; try with_reducible rfl)
          simp only [List.setIfInBounds_toArray, List.set_cons_zero, List.set_cons_succ]
          refine take_yes 16 33 rfl rfl (by kernel_rfl) (by kernel_rfl) (by kernel_rfl) (fun _ _ _ h => h) (by assumption) (by rfl) (v := ?_) ?_ ?_
          rotate_left 1
          · (intro w hSw; (try dsimp only at hSw); go_simp; try with_reducible rfl)
          simp only [List.setIfInBounds_toArray, List.set_cons_zero, List.set_cons_succ]
          refine take_yes 17 34 rfl rfl (by kernel_rfl) (by kernel_rfl) (by kernel_rfl) (fun _ _ _ h => h) (by assumption) (by rfl) (v := ?_) ?_ ?_
          rotate_left 1
          · (intro w hSw; (try dsimp only at hSw); go_simp; try with_reducible rfl)
          simp only [List.setIfInBounds_toArray, List.set_cons_zero, List.set_cons_succ]
          refine wpAnyH_done (by kernel_rfl) ?_ _
          clear hHeld z0 z1 z2 z3 z4 z5 z6 z7 z8 x0 x1 x2 x3 x4 x6 x7 x8 z9
          have y9 := H1.out.2.2.1.free k
          have hl4 := H1.out.2.2.1.lt
          go_wp2
          have HN : Hid (Blk (w1.setCell ⟨w.heap.size + 1 + 1, k, none⟩ (.bool true)) w.heap.size 29 [.slice L p.log.length cl, .slice R p.wits.length cr, .int .i64 p.quorum] ∧ Blk (w1.setCell ⟨w.heap.size + 1 + 1, k, none⟩ (.bool true)) (w.heap.size + 1) 36 [.int .i64 c.num, .slice T c.root.length ct] ∧ Blk (w1.setCell ⟨w.heap.size + 1 + 1, k, none⟩ (.bool true)) (w.heap.size + 1 + 1) 4 (cellsS (sn (i + 1))) ∧ Below w.heap.size w (w1.setCell ⟨w.heap.size + 1 + 1, k, none⟩ (.bool true))) := Lib.hid (by
            have hc := chg_cell (Chg.refl w1 (fun x => x = w.heap.size + 1 + 1)) k (.bool true)
            refine ⟨H1.out.1.chg hc (by omega), H1.out.2.1.chg hc (by omega), ?_, H1.out.2.2.2.trans (hc.below H1.out.2.2.2.size (fun x hx => by omega))⟩
            rw [HT.out, ← cellsS_set (sn i) k hk4]
            exact H1.out.2.2.1.set k _ (by show k < 4; exact hk4))
          clear x9 y9
          go_roundw
          case rel => exact ⟨i + 1, by rw [HT.out]; go_num, by go_num, by omega, HN⟩
          case measure => simp [intOf]; omega
    · obtain rfl : i = gs.length := by omega
      have HE := Lib.hid HI.out.2.2.2
      clear HI
      go_wp2
      go_ret
      exact ⟨rfl, HE.out⟩
end Go.Proofs.YtlkgeifmppadmaaGreat
