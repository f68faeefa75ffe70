/- FeederDones, its plain law: cosignatures that are kept, and what is told when a quorum is there. No walk. Two checkpoints, two signatures that are the same: so the references answer. Two signatures that are the same: so the reference answers; the law's equal. Conditions: as each theorem states them. -/
import Derived.Test.YtlkgeifmppadmaaGreatKm
import Derived.Test.YtlkgeifmppadmaaGreatKq
import Derived.Test.YtlkgeifmppadmaaGreatKo
import Derived.Test.YtlkgeifmppadmaaGreatKg
namespace Go.Proofs.YtlkgeifmppadmaaGreat
open Go.RowKit
set_option linter.unusedVariables false
set_option linter.unusedSimpArgs false

/-- Cosignatures of one checkpoint, each of another witness, that all verify. -/
def ValidS (P : PolD) (c : CkD) (gs : List CgD) : Prop := (∀ g ∈ gs, cgVerB P c g = true) ∧ (gs.map (·.wit)).Nodup
theorem ValidS.nil (P : PolD) (c : CkD) : ValidS P c [] := ⟨fun g hg => absurd hg (by simp), List.nodup_nil⟩
theorem ValidS.snoc {P : PolD} {c : CkD} {gs : List CgD} (h : ValidS P c gs) (g : CgD) (hg : cgVerB P c g = true) (hn : ∀ x ∈ gs, x.wit ≠ g.wit) : ValidS P c (gs ++ [g]) := by
  refine ⟨fun x hx => ?_, ?_⟩
  · rcases List.mem_append.1 hx with hx | hx
    · exact h.1 x hx
    · rw [List.mem_singleton.1 hx]; exact hg
  · rw [List.map_append, List.nodup_append]
    refine ⟨h.2, by simp, fun a ha b hb => ?_⟩
    obtain ⟨x, hx, rfl⟩ := List.mem_map.1 ha
    have : b = g.wit := by simpa using hb
    rw [this]
    exact hn x hx
theorem seen_valid {P : PolD} {c : CkD} {gs : List CgD} (h : ValidS P c gs) : ∀ n, n ≤ gs.length → seenN P c gs n = ((gs.take n).map (·.wit)).reverse
  | 0, _ => by simp [seenN]
  | n + 1, hn => by
    have ih := seen_valid h n (by omega)
    have hlt : n < gs.length := by omega
    have e : gs.getD n ⟨0, ⟨0, [], []⟩⟩ = gs[n] := by rw [List.getD_eq_getElem?_getD, List.getElem?_eq_getElem hlt]; rfl
    have et : gs.take (n + 1) = gs.take n ++ [gs[n]] := List.take_succ_eq_append_getElem hlt
    have hnd : ((gs.take (n + 1)).map (·.wit)).Nodup := (h.2).sublist ((List.take_sublist _ _).map _)
    rw [et, List.map_append, List.nodup_append] at hnd
    have hni : gs[n].wit ∉ seenN P c gs n := by
      rw [ih, List.mem_reverse]
      intro hm
      exact hnd.2.2 _ hm gs[n].wit (by simp) rfl
    unfold seenN
    rw [e, if_pos ⟨h.1 _ (List.getElem_mem hlt), hni⟩, ih, et, List.map_append, List.reverse_append]
    rfl
theorem count_valid {P : PolD} {c : CkD} {gs : List CgD} (h : ValidS P c gs) : (seenN P c gs gs.length).length = gs.length := by
  rw [seen_valid h _ (Nat.le_refl _)]
  simp
/-- What is told as done, and the law's memory of it. -/
def DnOk (P : PolD) (q old : Int) (d : FdD) : Prop := (old = -1 ∧ d.enough = [] ∧ d.done = zSg) ∨ (0 ≤ old ∧ d.done.ck.num = old ∧ q ≤ (d.enough.length : Int) ∧ ValidS P d.done.ck d.enough ∧ (∀ g ∈ d.enough, SmallSig g.sig) ∧ SmallSig d.done.sig ∧ d.done.ck.root.length ≤ 1000000 ∧ d.enough.length ≤ 8)
structure RunS (P : PolD) (k : Nat) (q z : Int) (s : SgD) (i : Nat) (old : Int) (seen : List Bool) (d : FdD) : Prop where
  has : d.has = true
  cur : d.cur = s
  len : d.l.length = k
  kv : ValidS P s.ck d.kept
  kk : ∀ g ∈ d.kept, 0 ≤ g.wit ∧ g.wit < (k : Int) ∧ (wAt d.l g.wit.toNat).kept = true
  ks : ∀ g ∈ d.kept, SmallSig g.sig
  kl : d.kept.length ≤ i
  sl : seen.length = k
  se : ∀ w, w < k → seen.getD w false = (wAt d.l w).kept
  od : (old = z ∧ q ≤ (d.kept.length : Int) ∧ d.enough = d.kept ∧ d.done = s) ∨ ((d.kept.length : Int) < q ∧ old ≠ z ∧ DnOk P q old d)
theorem RunS.up {P : PolD} {k : Nat} {q z : Int} {s : SgD} {i j : Nat} {old : Int} {seen : List Bool} {d : FdD} (h : RunS P k q z s i old seen d) (hj : i ≤ j) : RunS P k q z s j old seen d :=
  ⟨h.has, h.cur, h.len, h.kv, h.kk, h.ks, Nat.le_trans h.kl hj, h.sl, h.se, h.od⟩
theorem RunS.dn {P : PolD} {k : Nat} {q z : Int} {s : SgD} {i : Nat} {old : Int} {seen : List Bool} {d : FdD} (h : RunS P k q z s i old seen d) (hz : s.ck.num = z) (hz0 : 0 ≤ z) (hs : SmallSig s.sig) (hr : s.ck.root.length ≤ 1000000) (hi : i ≤ 8) : DnOk P q old d := by
  rcases h.od with ⟨a, b, c, e⟩ | ⟨_, _, a⟩
  · right
    have := h.kl
    rw [e, c, a]
    exact ⟨hz0, hz, b, h.kv, h.ks, hs, hr, by omega⟩
  · exact a
theorem run_start (P : PolD) (k : Nat) (q z : Int) (hq : 1 ≤ q) (s : SgD) (old : Int) (d : FdD) (now : Int) (hl : d.l.length = k) (ho : old ≠ z) (h : DnOk P q old d) : RunS P k q z s 0 old (List.replicate k false) (offD d s now) := by
  refine ⟨rfl, rfl, by show (d.l.map rst).length = k; rw [List.length_map]; exact hl, ValidS.nil _ _, fun g hg => absurd hg (by simp [offD]), fun g hg => absurd hg (by simp [offD]), by simp [offD], by simp, fun w hw => ?_, .inr ⟨by show ((0 : Nat) : Int) < q; omega, ho, h⟩⟩
  have e : (wAt (d.l.map rst) w).kept = false := by
    unfold wAt
    rw [List.getD_eq_getElem?_getD, List.getElem?_map]
    cases d.l[w]? with
    | none => rfl
    | some x => rfl
  show _ = (wAt (d.l.map rst) w).kept
  rw [e, List.getD_eq_getElem?_getD, List.getElem?_replicate, if_pos hw]
  rfl
theorem RunS.rep {P : PolD} {k : Nat} {q z : Int} {s : SgD} {i : Nat} {old : Int} {seen : List Bool} {d : FdD} (h : RunS P k q z s i old seen d) (wit size now : Int) : RunS P k q z s i old seen (repN d wit size now) := by
  unfold repN
  split
  · have e : ∀ j, (wAt (d.l.set wit.toNat ⟨size, (wAt d.l wit.toNat).tries, (wAt d.l wit.toNat).kept⟩) j).kept = (wAt d.l j).kept := fun j => by
      rw [wAt_set]
      split
      · rename_i e; rw [e.1]
      · rfl
    refine ⟨h.has, h.cur, by show (d.l.set _ _).length = k; rw [List.length_set]; exact h.len, h.kv, fun g hg => ?_, h.ks, h.kl, h.sl, fun w hw => ?_, h.od⟩
    · obtain ⟨a, b, c⟩ := h.kk g hg
      exact ⟨a, b, (e _).trans c⟩
    · exact (h.se w hw).trans (e w).symm
  · exact h
theorem RunS.again {P : PolD} {k : Nat} {q z : Int} {s : SgD} {i : Nat} {old : Int} {seen : List Bool} {d : FdD} (h : RunS P k q z s i old seen d) (w : Nat) (hw : w < k) (hs : seen.getD w false = true) (g : CgD) (size now : Int) : anyRB d w g size = false ∧ anyRN d w g size now = d := by
  have hk : (wAt d.l w).kept = true := by rw [← h.se w hw]; exact hs
  have h1 : hearB d w g = false := by
    unfold hearB
    rw [Int.toNat_natCast, hk]
    simp
  have h2 : repB d w size = false := by
    unfold repB
    rw [Int.toNat_natCast, hk]
    simp
  unfold anyRB anyRN repN
  rw [h1, h2]
  exact ⟨rfl, rfl⟩
theorem RunS.hear {P : PolD} {k : Nat} {q z : Int} {s : SgD} {i : Nat} {old : Int} {seen : List Bool} {d : FdD} (h : RunS P k q z s i old seen d) (hp : d.p = P) (hpq : P.quorum = q) (w : Nat) (hw : w < k) (hs : seen.getD w false = false) (g : CgD) (hg : cgVerB P s.ck g = true) (hgw : g.wit = (w : Int)) (hgs : SmallSig g.sig) (size now : Int) :
    anyRB d w g size = true ∧ RunS P k q z s (i + 1) (if q ≤ (d.kept.length : Int) + 1 then z else old) (seen.set w true) (anyRN d w g size now) ∧ (anyRN d w g size now).kept.length = d.kept.length + 1 := by
  have hk : (wAt d.l w).kept = false := by rw [← h.se w hw]; exact hs
  have hlen := h.len
  have h1 : hearB d w g = true := by
    unfold hearB
    rw [Int.toNat_natCast, hk, h.has, hp, h.cur, hg, hgw]
    simp
    omega
  have e : anyRN d w g size now = keepD d w g := by unfold anyRN; rw [h1, if_pos rfl, Int.toNat_natCast]
  refine ⟨by unfold anyRB; rw [h1]; rfl, ?_, ?_⟩
  · rw [e]
    have hl2 : ∀ j, (wAt (d.l.set w ⟨d.cur.ck.num, (wAt d.l w).tries, true⟩) j).kept = if w = j then true else (wAt d.l j).kept := fun j => by
      rw [wAt_set]
      by_cases hj : w = j
      · rw [if_pos ⟨hj, by omega⟩, if_pos hj]
      · rw [if_neg (fun x => hj x.1), if_neg hj]
    have hv := h.kv.snoc g hg (fun x hx e => by
      obtain ⟨a, b, c⟩ := h.kk x hx
      rw [e, hgw, Int.toNat_natCast] at c
      rw [hk] at c
      exact absurd c (by decide))
    have hkk : ∀ x ∈ d.kept ++ [g], 0 ≤ x.wit ∧ x.wit < (k : Int) ∧ (wAt (d.l.set w ⟨d.cur.ck.num, (wAt d.l w).tries, true⟩) x.wit.toNat).kept = true := fun x hx => by
      rw [hl2]
      rcases List.mem_append.1 hx with hx | hx
      · obtain ⟨a, b, c⟩ := h.kk x hx
        refine ⟨a, b, ?_⟩
        split
        · rfl
        · exact c
      · rw [List.mem_singleton.1 hx, hgw, Int.toNat_natCast, if_pos rfl]
        exact ⟨by omega, by omega, rfl⟩
    have hks : ∀ x ∈ d.kept ++ [g], SmallSig x.sig := fun x hx => by
      rcases List.mem_append.1 hx with hx | hx
      · exact h.ks x hx
      · rw [List.mem_singleton.1 hx]; exact hgs
    have hse : ∀ j, j < k → (seen.set w true).getD j false = (wAt (d.l.set w ⟨d.cur.ck.num, (wAt d.l w).tries, true⟩) j).kept := fun j hj => by
      rw [hl2, List.getD_eq_getElem?_getD, List.getElem?_set]
      by_cases hwj : w = j
      · rw [if_pos hwj, if_pos hwj, if_pos (by rw [h.sl]; exact hw)]; rfl
      · rw [if_neg hwj, if_neg hwj, ← List.getD_eq_getElem?_getD]; exact h.se j hj
    have hkl : (d.kept ++ [g]).length = d.kept.length + 1 := by simp
    have hkl2 := h.kl
    unfold keepD
    by_cases hq : d.p.quorum ≤ ((d.kept.length + 1 : Nat) : Int)
    · rw [if_pos hq]
      rw [hp, hpq] at hq
      rw [if_pos (by omega)]
      exact ⟨h.has, h.cur, by show (d.l.set _ _).length = k; rw [List.length_set]; exact h.len, hv, hkk, hks, by show (d.kept ++ [g]).length ≤ _; omega, by simp [h.sl], hse, .inl ⟨rfl, by show q ≤ ((d.kept ++ [g]).length : Int); omega, rfl, h.cur⟩⟩
    · rw [if_neg hq]
      rw [hp, hpq] at hq
      rw [if_neg (by omega)]
      rcases h.od with ⟨a, b, c, e⟩ | ⟨a, b, c⟩
      · omega
      · exact ⟨h.has, h.cur, by show (d.l.set _ _).length = k; rw [List.length_set]; exact h.len, hv, hkk, hks, by show (d.kept ++ [g]).length ≤ _; omega, by simp [h.sl], hse, .inr ⟨by show ((d.kept ++ [g]).length : Int) < q; omega, b, c⟩⟩
  · rw [e]
    unfold keepD
    split
    · show (d.kept ++ [g]).length = _; simp
    · show (d.kept ++ [g]).length = _; simp
theorem FdJ.anyRN {d : FdD} {p : PolD} {retry : Int} {n B : Nat} (h : FdJ d p retry n B) (wit : Int) (g : CgD) (size now : Int) : FdJ (anyRN d wit g size now) p retry n (B + 1) := by
  unfold Go.Proofs.YtlkgeifmppadmaaGreat.anyRN
  split
  · exact (h.keepD _ _).more (by omega)
  · exact h.repN wit size now
end Go.Proofs.YtlkgeifmppadmaaGreat
namespace Go.Proofs.YtlkgeifmppadmaaGreat
open Go.RowKit
set_option linter.unusedVariables false
set_option linter.unusedSimpArgs false

set_option maxRecDepth 100000 in
set_option maxHeartbeats 2000000 in
theorem rcksame_any (va vb : Value) (c : CkD) (w : World) (ha : CkV w va c) (hb : CkV w vb c) :
    Calls Tryz.prog 68 #[va, vb] w fun e w' => e = .returned (.bool true) ∧ Below w.heap.size w w' := by
  obtain ⟨p, rfl, h1⟩ := ha
  obtain ⟨q, rfl, h2⟩ := hb
  obtain ⟨A, ca, rfl⟩ := h1.form
  obtain ⟨B, cb, rfl⟩ := h2.form
  have hb1 := (Below.refl w.heap.size w).alloc (Nat.le_refl _) (.cells #[.int .i64 c.num, .slice A c.root.length ca] 36)
  have hb2 := hb1.alloc (by simp) (.cells #[.int .i64 c.num, .slice B c.root.length cb] 36)
  have c1 := run_string_bys _ _ _ (h1.below hb2)
  have c2 := run_string_bys _ _ _ (h2.below hb2)
  have HB := Lib.hid hb2
  clear h1 h2 hb1 hb2
  generalize c.root = R at *
  generalize c.num = n at *
  go_enter Tryz.func68, Tryz.ntmps68
  go_wp2
  go_ret
  exact ⟨rfl, HB.out⟩
end Go.Proofs.YtlkgeifmppadmaaGreat
namespace Go.Proofs.YtlkgeifmppadmaaGreat
open Go.RowKit
set_option linter.unusedVariables false
set_option linter.unusedSimpArgs false

set_option maxRecDepth 100000 in
set_option maxHeartbeats 4000000 in
theorem rsgsame_any (va vb : Value) (s : SigD) (hp : s.parts.length ≤ 1000000) (hq : s.path.length ≤ 1000000) (w : World) (ha : SigV w va s) (hb : SigV w vb s) :
    Calls Tryz.prog 69 #[va, vb] w fun e w' => e = .returned (.bool true) ∧ Below w.heap.size w w' := by
  obtain ⟨p1, q1, rfl, h1, h2⟩ := ha
  obtain ⟨p2, q2, rfl, h3, h4⟩ := hb
  obtain ⟨A, ca, rfl⟩ := h1.form
  obtain ⟨B, cb, rfl⟩ := h2.form
  obtain ⟨C, cc, rfl⟩ := h3.form
  obtain ⟨D, cd, rfl⟩ := h4.form
  obtain ⟨ix, Ps, Qs⟩ := s
  have hb1 := (Below.refl w.heap.size w).alloc (Nat.le_refl _) (.cells #[.int .i64 ix, .slice A Ps.length ca, .slice B Qs.length cb] 38)
  have hb2 := hb1.alloc (by simp) (.cells #[.int .i64 ix, .slice C Ps.length cc, .slice D Qs.length cd] 38)
  have k1 := (Blk.new w 38 [.int .i64 ix, .slice A Ps.length ca, .slice B Qs.length cb]).below ((Below.refl _ _).alloc (Nat.le_refl _) (.cells #[.int .i64 ix, .slice C Ps.length cc, .slice D Qs.length cd] 38))
  have k2 := Blk.new (w.alloc (.cells #[.int .i64 ix, .slice A Ps.length ca, .slice B Qs.length cb] 38)) 38 [.int .i64 ix, .slice C Ps.length cc, .slice D Qs.length cd]
  rw [show (w.alloc (.cells #[.int .i64 ix, .slice A Ps.length ca, .slice B Qs.length cb] 38)).heap.size = w.heap.size + 1 by simp] at k2
  have HW := Lib.hid (And.intro k1 (And.intro k2 hb2))
  have HX := Lib.hid (And.intro h1 (And.intro h2 (And.intro h3 h4)))
  clear h1 h2 h3 h4 hb1 hb2 k1 k2
  go_enter Tryz.func69, Tryz.ntmps69
  go_wp2
  go_loopw [5] (fun v wr => ∃ i : Nat, v = .int .i64 i ∧ i ≤ Ps.length ∧ Hid (Below w.heap.size w wr ∧ Blk wr w.heap.size 38 [.int .i64 ix, .slice A Ps.length ca, .slice B Qs.length cb] ∧ Blk wr (w.heap.size + 1) 38 [.int .i64 ix, .slice C Ps.length cc, .slice D Qs.length cd])) (fun v _ => Ps.length - (intOf v).toNat)
  case atStart => exact ⟨0, rfl, Nat.zero_le _, Lib.hid ⟨HW.out.2.2, HW.out.1, HW.out.2.1⟩⟩
  case round =>
    obtain ⟨i, rfl, hi, HI⟩ := hrel
    have a1 := HI.out.2.1.cell 1 _ rfl
    have a2 := HI.out.2.1.cell 2 _ rfl
    have b1 := HI.out.2.2.cell 1 _ rfl
    have b2 := HI.out.2.2.cell 2 _ rfl
    have l1 := HI.out.2.1.lt
    have l2 := HI.out.2.2.lt
    by_cases hlt : i < Ps.length
    · obtain ⟨ga, oa, ua, rfl, hga, -, hca, hcua, hua⟩ := (HX.out.1.below HI.out.1).get i hlt
      obtain ⟨gb, ob, ub', rfl, hgb, -, hcb, hcub, hub⟩ := (HX.out.2.2.1.below HI.out.1).get i hlt
      obtain ⟨UA, na, rfl⟩ := hua.form
      obtain ⟨UB, nb, rfl⟩ := hub.form
      have r1 := run_string_bys wr.drew _ _ (hua.below (Below.refl _ _).drew)
      have r2 := run_string_bys wr.drew _ _ (hub.below (Below.refl _ _).drew)
      clear hua hub
      generalize Ps.getD i [] = X at *
      go_wp2
      refine wp_region_held_drew (S := fun w' => w'.cell? ⟨w.heap.size, 1, none⟩ = some (.slice (some ⟨ga, oa, none⟩) Ps.length ca) ∧ w'.cell? ⟨w.heap.size + 1, 1, none⟩ = some (.slice (some ⟨gb, ob, none⟩) Ps.length cc) ∧ w'.cell? ⟨ga, oa + i, none⟩ = some (.slice UA X.length na) ∧ w'.cell? ⟨gb, ob + i, none⟩ = some (.slice UB X.length nb) ∧ (convert 26 9 (.slice UA X.length na)).run Tryz.prog w' = .ok (.string ⟨X.toArray⟩) w' ∧ (convert 26 9 (.slice UB X.length nb)).run Tryz.prog w' = .ok (.string ⟨X.toArray⟩) w') (by kernel_rfl) ?_ (fun hHeld => ?_)
      · exact ⟨a1, b1, hcua, hcub, r1, r2⟩
      refine take_yes 0 37 rfl rfl (by kernel_rfl) (by kernel_rfl) (by kernel_rfl) (fun _ _ _ h => h) (by assumption) (by rfl) (v := ?_) ?_ ?_
      rotate_left 1
      · (intro w hSw; (try dsimp only at hSw); go_simp; try with_reducible rfl)
      simp only [List.setIfInBounds_toArray, List.set_cons_zero, List.set_cons_succ]
      refine take_yes 1 38 rfl rfl (by kernel_rfl) (by kernel_rfl) (by kernel_rfl) (fun _ _ _ h => h) (by assumption) (by rfl) (v := ?_) ?_ ?_
      rotate_left 1
      · (intro w hSw; (try dsimp only at hSw); go_simp; try with_reducible rfl)
      simp only [List.setIfInBounds_toArray, List.set_cons_zero, List.set_cons_succ]
      refine take_yes 2 39 rfl rfl (by kernel_rfl) (by kernel_rfl) (by kernel_rfl) (fun _ _ _ h => h) (by assumption) (by rfl) (v := ?_) ?_ ?_
      rotate_left 1
      · (intro w hSw; (try dsimp only at hSw); go_simp; try with_reducible rfl)
      simp only [List.setIfInBounds_toArray, List.set_cons_zero, List.set_cons_succ]
      refine take_yes 3 40 rfl rfl (by kernel_rfl) (by kernel_rfl) (by kernel_rfl) (fun _ _ _ h => h) (by assumption) (by rfl) (v := ?_) ?_ ?_
      rotate_left 1
      · (intro w hSw; (try dsimp only at hSw); go_simp; try with_reducible rfl)
      simp only [List.setIfInBounds_toArray, List.set_cons_zero, List.set_cons_succ]
      refine take_yes 4 41 rfl rfl (by kernel_rfl) (by kernel_rfl) (by kernel_rfl) (fun _ _ _ h => h) (by assumption) (by rfl) (v := ?_) ?_ ?_
      rotate_left 1
      · (intro w hSw; (try dsimp only at hSw); go_simp; try with_reducible rfl)
      simp only [List.setIfInBounds_toArray, List.set_cons_zero, List.set_cons_succ]
      refine take_yes 5 42 rfl rfl (by kernel_rfl) (by kernel_rfl) (by kernel_rfl) (fun _ _ _ h => h) (by assumption) (by rfl) (v := ?_) ?_ ?_
      rotate_left 1
      · (intro w hSw; (try dsimp only at hSw); go_simp; try with_reducible rfl)
      simp only [List.setIfInBounds_toArray, List.set_cons_zero, List.set_cons_succ]
      refine take_yes 6 43 rfl rfl (by kernel_rfl) (by kernel_rfl) (by kernel_rfl) (fun _ _ _ h => h) (by assumption) (by rfl) (v := ?_) ?_ ?_
      rotate_left 1
      · (intro w hSw; (try dsimp only at hSw); go_simp; try with_reducible rfl)
      simp only [List.setIfInBounds_toArray, List.set_cons_zero, List.set_cons_succ]
      refine take_yes 7 44 rfl rfl (by kernel_rfl) (by kernel_rfl) (by kernel_rfl) (fun _ _ _ h => h) (by assumption) (by rfl) (v := ?_) ?_ ?_
      rotate_left 1
      · (intro w hSw; (try dsimp only at hSw); go_simp; try with_reducible rfl)
      simp only [List.setIfInBounds_toArray, List.set_cons_zero, List.set_cons_succ]
      refine take_yes 8 45 rfl rfl (by kernel_rfl) (by kernel_rfl) (by kernel_rfl) (fun _ _ _ h => h) (by assumption) (by rfl) (v := ?_) ?_ ?_
      rotate_left 1
      · (intro w hSw; (try dsimp only at hSw); go_simp; try with_reducible rfl)
      simp only [List.setIfInBounds_toArray, List.set_cons_zero, List.set_cons_succ]
      refine take_yes 9 46 rfl rfl (by kernel_rfl) (by kernel_rfl) (by kernel_rfl) (fun _ _ _ h => h) (by assumption) (by rfl) (v := ?_) ?_ ?_
      rotate_left 1
      · (intro w hSw; (try dsimp only at hSw); go_simp; try with_reducible rfl)
      simp only [List.setIfInBounds_toArray, List.set_cons_zero, List.set_cons_succ]
      refine take_yes 10 47 rfl rfl (by kernel_rfl) (by kernel_rfl) (by kernel_rfl) (fun _ _ _ h => h) (by assumption) (by rfl) (v := ?_) ?_ ?_
      rotate_left 1
      · (intro w hSw; (try dsimp only at hSw); go_simp; try with_reducible rfl)
      simp only [List.setIfInBounds_toArray, List.set_cons_zero, List.set_cons_succ]
      refine take_yes 11 48 rfl rfl (by kernel_rfl) (by kernel_rfl) (by kernel_rfl) (fun _ _ _ h => h) (by assumption) (by rfl) (v := ?_) ?_ ?_
      rotate_left 1
      · (intro w hSw; (try dsimp only at hSw); go_simp; try with_reducible rfl)
      simp only [List.setIfInBounds_toArray, List.set_cons_zero, List.set_cons_succ]
      refine take_yes 12 49 rfl rfl (by kernel_rfl) (by kernel_rfl) (by kernel_rfl) (fun _ _ _ h => h) (by assumption) (by rfl) (v := ?_) ?_ ?_
      rotate_left 1
      · (intro w hSw; (try dsimp only at hSw); go_simp; try with_reducible rfl)
      simp only [List.setIfInBounds_toArray, List.set_cons_zero, List.set_cons_succ]
      refine wpAnyH_done (by kernel_rfl) ?_ _
      have hd := (Below.refl wr.heap.size wr).drew
      have HN := Lib.hid (And.intro (HI.out.1.trans (hd.mono HI.out.1.size)) (And.intro (HI.out.2.1.below hd) (HI.out.2.2.below hd)))
      clear hd hHeld r1 r2 hcua hcub
      generalize wr.drew = w2 at *
      go_wp2
      go_roundw
      case rel => exact ⟨i + 1, by go_num, by omega, HN⟩
      case measure => simp [intOf]; omega
    · obtain rfl : i = Ps.length := by omega
      go_wp2
      go_loopw [6] (fun v wr => ∃ i : Nat, v = .int .i64 i ∧ i ≤ Qs.length ∧ Hid (Below w.heap.size w wr ∧ Blk wr w.heap.size 38 [.int .i64 ix, .slice A Ps.length ca, .slice B Qs.length cb] ∧ Blk wr (w.heap.size + 1) 38 [.int .i64 ix, .slice C Ps.length cc, .slice D Qs.length cd])) (fun v _ => Qs.length - (intOf v).toNat)
      case atStart => exact ⟨0, rfl, Nat.zero_le _, HI⟩
      case round =>
        clear a1 a2 b1 b2 l1 l2 HI
        obtain ⟨i, rfl, hi, HI⟩ := hrel
        have a2 := HI.out.2.1.cell 2 _ rfl
        have b2 := HI.out.2.2.cell 2 _ rfl
        have l1 := HI.out.2.1.lt
        have l2 := HI.out.2.2.lt
        by_cases hlt : i < Qs.length
        · obtain ⟨ga, oa, ua, rfl, hga, -, hca, hcua, hua⟩ := (HX.out.2.1.below HI.out.1).get i hlt
          obtain ⟨gb, ob, ub', rfl, hgb, -, hcb, hcub, hub⟩ := (HX.out.2.2.2.below HI.out.1).get i hlt
          obtain ⟨UA, na, rfl⟩ := hua.form
          obtain ⟨UB, nb, rfl⟩ := hub.form
          have r1 := run_string_bys wr.drew _ _ (hua.below (Below.refl _ _).drew)
          have r2 := run_string_bys wr.drew _ _ (hub.below (Below.refl _ _).drew)
          clear hua hub
          generalize Qs.getD i [] = X at *
          go_wp2
          refine wp_region_held_drew (S := fun w' => w'.cell? ⟨w.heap.size, 2, none⟩ = some (.slice (some ⟨ga, oa, none⟩) Qs.length cb) ∧ w'.cell? ⟨w.heap.size + 1, 2, none⟩ = some (.slice (some ⟨gb, ob, none⟩) Qs.length cd) ∧ w'.cell? ⟨ga, oa + i, none⟩ = some (.slice UA X.length na) ∧ w'.cell? ⟨gb, ob + i, none⟩ = some (.slice UB X.length nb) ∧ (convert 26 9 (.slice UA X.length na)).run Tryz.prog w' = .ok (.string ⟨X.toArray⟩) w' ∧ (convert 26 9 (.slice UB X.length nb)).run Tryz.prog w' = .ok (.string ⟨X.toArray⟩) w') (by kernel_rfl) ?_ (fun hHeld => ?_)
          · exact ⟨a2, b2, hcua, hcub, r1, r2⟩
          refine take_yes 0 57 rfl rfl (by kernel_rfl) (by kernel_rfl) (by kernel_rfl) (fun _ _ _ h => h) (by assumption) (by rfl) (v := ?_) ?_ ?_
          rotate_left 1
          · (intro w hSw; (try dsimp only at hSw); go_simp; try with_reducible rfl)
          simp only [List.setIfInBounds_toArray, List.set_cons_zero, List.set_cons_succ]
          refine take_yes 1 58 rfl rfl (by kernel_rfl) (by kernel_rfl) (by kernel_rfl) (fun _ _ _ h => h) (by assumption) (by rfl) (v := ?_) ?_ ?_
          rotate_left 1
          · (intro w hSw; (try dsimp only at hSw); go_simp; try with_reducible rfl)
          simp only [List.setIfInBounds_toArray, List.set_cons_zero, List.set_cons_succ]
          refine take_yes 2 59 rfl rfl (by kernel_rfl) (by kernel_rfl) (by kernel_rfl) (fun _ _ _ h => h) (by assumption) (by rfl) (v := ?_) ?_ ?_
          rotate_left 1
          · (intro w hSw; (try dsimp only at hSw); go_simp; try with_reducible rfl)
          simp only [List.setIfInBounds_toArray, List.set_cons_zero, List.set_cons_succ]
          refine take_yes 3 60 rfl rfl (by kernel_rfl) (by kernel_rfl) (by kernel_rfl) (fun _ _ _ h => h) (by assumption) (by rfl) (v := ?_) ?_ ?_
          rotate_left 1
          · (intro w hSw; (try dsimp only at hSw); go_simp; try with_reducible rfl)
          simp only [List.setIfInBounds_toArray, List.set_cons_zero, List.set_cons_succ]
          refine take_yes 4 61 rfl rfl (by kernel_rfl) (by kernel_rfl) (by kernel_rfl) (fun _ _ _ h => h) (by assumption) (by rfl) (v := ?_) ?_ ?_
          rotate_left 1
          · (intro w hSw; (try dsimp only at hSw); go_simp; try with_reducible rfl)
          simp only [List.setIfInBounds_toArray, List.set_cons_zero, List.set_cons_succ]
          refine take_yes 5 62 rfl rfl (by kernel_rfl) (by kernel_rfl) (by kernel_rfl) (fun _ _ _ h => h) (by assumption) (by rfl) (v := ?_) ?_ ?_
          rotate_left 1
          · (intro w hSw; (try dsimp only at hSw); go_simp; try with_reducible rfl)
          simp only [List.setIfInBounds_toArray, List.set_cons_zero, List.set_cons_succ]
          refine take_yes 6 63 rfl rfl (by kernel_rfl) (by kernel_rfl) (by kernel_rfl) (fun _ _ _ h => h) (by assumption) (by rfl) (v := ?_) ?_ ?_
          rotate_left 1
          · (intro w hSw; (try dsimp only at hSw); go_simp; try with_reducible rfl)
          simp only [List.setIfInBounds_toArray, List.set_cons_zero, List.set_cons_succ]
          refine take_yes 7 64 rfl rfl (by kernel_rfl) (by kernel_rfl) (by kernel_rfl) (fun _ _ _ h => h) (by assumption) (by rfl) (v := ?_) ?_ ?_
          rotate_left 1
          · (intro w hSw; (try dsimp only at hSw); go_simp; try with_reducible rfl)
          simp only [List.setIfInBounds_toArray, List.set_cons_zero, List.set_cons_succ]
          refine take_yes 8 65 rfl rfl (by kernel_rfl) (by kernel_rfl) (by kernel_rfl) (fun _ _ _ h => h) (by assumption) (by rfl) (v := ?_) ?_ ?_
          rotate_left 1
          · (intro w hSw; (try dsimp only at hSw); go_simp; try with_reducible rfl)
          simp only [List.setIfInBounds_toArray, List.set_cons_zero, List.set_cons_succ]
          refine take_yes 9 66 rfl rfl (by kernel_rfl) (by kernel_rfl) (by kernel_rfl) (fun _ _ _ h => h) (by assumption) (by rfl) (v := ?_) ?_ ?_
          rotate_left 1
          · (intro w hSw; (try dsimp only at hSw); go_simp; try with_reducible rfl)
          simp only [List.setIfInBounds_toArray, List.set_cons_zero, List.set_cons_succ]
          refine take_yes 10 67 rfl rfl (by kernel_rfl) (by kernel_rfl) (by kernel_rfl) (fun _ _ _ h => h) (by assumption) (by rfl) (v := ?_) ?_ ?_
          rotate_left 1
          · (intro w hSw; (try dsimp only at hSw); go_simp; try with_reducible rfl)
          simp only [List.setIfInBounds_toArray, List.set_cons_zero, List.set_cons_succ]
          refine take_yes 11 68 rfl rfl (by kernel_rfl) (by kernel_rfl) (by kernel_rfl) (fun _ _ _ h => h) (by assumption) (by rfl) (v := ?_) ?_ ?_
          rotate_left 1
          · (intro w hSw; (try dsimp only at hSw); go_simp; try with_reducible rfl)
          simp only [List.setIfInBounds_toArray, List.set_cons_zero, List.set_cons_succ]
          refine take_yes 12 69 rfl rfl (by kernel_rfl) (by kernel_rfl) (by kernel_rfl) (fun _ _ _ h => h) (by assumption) (by rfl) (v := ?_) ?_ ?_
          rotate_left 1
          · (intro w hSw; (try dsimp only at hSw); go_simp; try with_reducible rfl)
          simp only [List.setIfInBounds_toArray, List.set_cons_zero, List.set_cons_succ]
          refine wpAnyH_done (by kernel_rfl) ?_ _
          have hd := (Below.refl wr.heap.size wr).drew
          have HN := Lib.hid (And.intro (HI.out.1.trans (hd.mono HI.out.1.size)) (And.intro (HI.out.2.1.below hd) (HI.out.2.2.below hd)))
          clear hd hHeld r1 r2 hcua hcub
          generalize wr.drew = w2 at *
          go_wp2
          go_roundw
          case rel => exact ⟨i + 1, by go_num, by omega, HN⟩
          case measure => simp [intOf]; omega
        · obtain rfl : i = Qs.length := by omega
          go_wp2
          go_ret
          exact ⟨rfl, HI.out.1⟩
set_option maxRecDepth 100000 in
set_option maxHeartbeats 4000000 in
theorem equal_same (va vb : Value) (s : SgD) (hs : SmallSig s.sig) (hp : s.sig.parts.length ≤ 1000000) (hq : s.sig.path.length ≤ 1000000) (w : World) (ha : SgV w va s) (hb : SgV w vb s) :
    Calls Tryz.prog 41 #[va, vb] w fun e w' => e = .returned (.bool true) ∧ Below w.heap.size w w' := by
  have HC := Lib.hid (fun (wz : World) (u v : Value) (z1 : CkV wz u s.ck) (z2 : CkV wz v s.ck) => rcksame_any u v s.ck wz z1 z2)
  have HS := Lib.hid (fun (wz : World) (u v : Value) (z1 : SigV wz u s.sig) (z2 : SigV wz v s.sig) => rsgsame_any u v s.sig hp hq wz z1 z2)
  obtain ⟨r1, p1, q1, rfl, h1, h2, h3⟩ := ha
  obtain ⟨r2, p2, q2, rfl, h4, h5, h6⟩ := hb
  obtain ⟨R1, c1, rfl⟩ := h1.form
  obtain ⟨A1, a1, rfl⟩ := h2.form
  obtain ⟨B1, b1, rfl⟩ := h3.form
  obtain ⟨R2, c2, rfl⟩ := h4.form
  obtain ⟨A2, a2, rfl⟩ := h5.form
  obtain ⟨B2, b2, rfl⟩ := h6.form
  have hb1 := (Below.refl w.heap.size w).alloc (Nat.le_refl _) (.cells #[.int .i64 s.ck.num, .slice R1 s.ck.root.length c1, .int .i64 s.sig.index, .slice A1 s.sig.parts.length a1, .slice B1 s.sig.path.length b1] 40)
  have hb2 := hb1.alloc (by simp) (.cells #[.int .i64 s.ck.num, .slice R2 s.ck.root.length c2, .int .i64 s.sig.index, .slice A2 s.sig.parts.length a2, .slice B2 s.sig.path.length b2] 40)
  have k1 := (Blk.new w 40 [.int .i64 s.ck.num, .slice R1 s.ck.root.length c1, .int .i64 s.sig.index, .slice A1 s.sig.parts.length a1, .slice B1 s.sig.path.length b1]).below ((Below.refl _ _).alloc (Nat.le_refl _) (.cells #[.int .i64 s.ck.num, .slice R2 s.ck.root.length c2, .int .i64 s.sig.index, .slice A2 s.sig.parts.length a2, .slice B2 s.sig.path.length b2] 40))
  have k2 := Blk.new (w.alloc (.cells #[.int .i64 s.ck.num, .slice R1 s.ck.root.length c1, .int .i64 s.sig.index, .slice A1 s.sig.parts.length a1, .slice B1 s.sig.path.length b1] 40)) 40 [.int .i64 s.ck.num, .slice R2 s.ck.root.length c2, .int .i64 s.sig.index, .slice A2 s.sig.parts.length a2, .slice B2 s.sig.path.length b2]
  rw [show (w.alloc (.cells #[.int .i64 s.ck.num, .slice R1 s.ck.root.length c1, .int .i64 s.sig.index, .slice A1 s.sig.parts.length a1, .slice B1 s.sig.path.length b1] 40)).heap.size = w.heap.size + 1 by simp] at k2
  have HW := Lib.hid (And.intro k1 (And.intro k2 hb2))
  have HX := Lib.hid (And.intro (And.intro h1 (And.intro h2 h3)) (And.intro h4 (And.intro h5 h6)))
  clear h1 h2 h3 h4 h5 h6 hb1 hb2 k1 k2
  go_enter Tryz.func41, Tryz.ntmps41
  go_wp2_with fail
  refine (HC.out _ _ _ ⟨_, rfl, HX.out.1.1.below HW.out.2.2⟩ ⟨_, rfl, HX.out.2.1.below HW.out.2.2⟩).mono ?_
  rintro e w1 ⟨rfl, h⟩
  have H1 := Lib.hid (And.intro (HW.out.1.below h) (And.intro (HW.out.2.1.below h) (HW.out.2.2.trans (h.mono (by simp; omega)))))
  clear h
  have c2 := H1.out.1.cell 2 _ rfl
  have c3 := H1.out.1.cell 3 _ rfl
  have c4 := H1.out.1.cell 4 _ rfl
  have d2 := H1.out.2.1.cell 2 _ rfl
  have d3 := H1.out.2.1.cell 3 _ rfl
  have d4 := H1.out.2.1.cell 4 _ rfl
  have l1 := H1.out.1.lt
  have l2 := H1.out.2.1.lt
  go_wp2_with fail
  refine (HS.out _ _ _ ⟨_, _, rfl, HX.out.1.2.1.below H1.out.2.2, HX.out.1.2.2.below H1.out.2.2⟩ ⟨_, _, rfl, HX.out.2.2.1.below H1.out.2.2, HX.out.2.2.2.below H1.out.2.2⟩).mono ?_
  rintro e w2 ⟨rfl, h⟩
  have H2 := Lib.hid (H1.out.2.2.trans (h.mono H1.out.2.2.size))
  clear h
  go_wp2
  go_ret
  exact ⟨rfl, H2.out⟩
end Go.Proofs.YtlkgeifmppadmaaGreat
