/- A feeder and the law's model go alike. No walk. The feeder's Current. Two checkpoints, two signatures that are the same: so the references answer. Two signatures that are the same: so the reference answers; the law's equal. The law's cosigs: two rows that show the same. Slices of ints; broadsheetbook's Within. The reference's new owner, and which blocks are its own. Seeds and hashes that are asked most; the law's owners. The reference's signatures, and which blocks are theirs. Conditions: as each theorem states them. -/
import Derived.Test.YtlkgeifmppadmaaGreatKk
import Derived.Test.YtlkgeifmppadmaaGreatKl
import Derived.Test.YtlkgeifmppadmaaGreatKg
import Derived.Laws.ResultCell
import Derived.Test.YtlkgeifmppadmaaGreatKe
import Derived.Test.YtlkgeifmppadmaaGreatKh
import Derived.Test.YtlkgeifmppadmaaGreatKf
import Derived.Test.YtlkgeifmppadmaaGreatKc
import Derived.Test.YtlkgeifmppadmaaGreatKd
namespace Go.Proofs.YtlkgeifmppadmaaGreat
open Go.RowKit
set_option linter.unusedVariables false
set_option linter.unusedSimpArgs false

structure Rl (d : FdD) (e : MdD) : Prop where
 p : e.p = d.p
 retry : e.retry = d.retry
 cur : e.cur = d.cur
 has : e.has = d.has
 th : e.th = d.l.map (fun x => x.size)
 tr : e.tr = d.l.map (fun x => x.tries)
 kp : ∀ k, k < d.l.length → (wAt d.l k).kept = hasW d.kept (k : Int)
 kept : e.kept = d.kept
 pl : e.plans = d.m.map sh
 srt : Srt d.m d.ord
 wr : ∀ x ∈ d.m, 0 ≤ x.wh ∧ x.wh < (d.l.length : Int)
 nd : (d.m.map (fun x => x.wh)).Nodup
 done : e.done = d.done
 dh : e.dh = decide (0 < d.enough.length)
 dk : e.dk = d.enough
theorem Rl.th_at {d : FdD} {e : MdD} (h : Rl d e) (k : Nat) : e.th.getD k 0 = (wAt d.l k).size := by
 rw [h.th]
 unfold wAt
 rw [List.getD_eq_getElem?_getD, List.getD_eq_getElem?_getD, List.getElem?_map]
 cases d.l[k]? <;> rfl
theorem Rl.tr_at {d : FdD} {e : MdD} (h : Rl d e) (k : Nat) : e.tr.getD k 0 = (wAt d.l k).tries := by
 rw [h.tr]
 unfold wAt
 rw [List.getD_eq_getElem?_getD, List.getD_eq_getElem?_getD, List.getElem?_map]
 cases d.l[k]? <;> rfl
theorem Rl.th_len {d : FdD} {e : MdD} (h : Rl d e) : e.th.length = d.l.length := by rw [h.th, List.length_map]
theorem Rl.tr_len {d : FdD} {e : MdD} (h : Rl d e) : e.tr.length = d.l.length := by rw [h.tr, List.length_map]
theorem Rl.offerB {d : FdD} {e : MdD} (h : Rl d e) (s : SgD) : moffB e s = offB d s := by unfold moffB offB; rw [h.p, h.has, h.cur]
theorem keepW_srt {m : List Ent} {ord : Int} (k : Int) (h : Srt m ord) : Srt (keepW k m) ord := ⟨List.Pairwise.sublist (keepW_sub k m) h.1, fun e he => h.2 e ((keepW_sub k m).subset he)⟩
theorem insE_nd (x : Ent) (m : List Ent) (h : (m.map (fun x => x.wh)).Nodup) (hx : ∀ y ∈ m, y.wh ≠ x.wh) : ((insE x m).map (fun x => x.wh)).Nodup := by
 have hp : ((insE x m).map (fun x => x.wh)).Perm ((m ++ [x]).map (fun x => x.wh)) := (insE_perm x m).map _
 rw [hp.nodup_iff, List.map_append, List.nodup_append]
 refine ⟨h, by simp, fun a ha b hb => ?_⟩
 obtain ⟨y, hy, rfl⟩ := List.mem_map.1 ha
 have : b = x.wh := by simpa using hb
 subst this
 exact hx y hy
theorem keepW_nd (k : Int) (m : List Ent) (h : (m.map (fun x => x.wh)).Nodup) : ((keepW k m).map (fun x => x.wh)).Nodup := List.Nodup.sublist ((keepW_sub k m).map _) h
theorem keepW_ne {k : Int} {m : List Ent} : ∀ y ∈ keepW k m, y.wh ≠ k := fun y hy => by
 have := (List.mem_filter.1 hy).2
 simpa using this
theorem keepW_id {k : Int} {m : List Ent} (h : ∀ y ∈ m, y.wh ≠ k) : keepW k m = m := by
 unfold keepW
 rw [List.filter_eq_self]
 intro y hy
 simpa using h y hy
theorem offM_nd (m : List Ent) (ord now : Int) (h : (m.map (fun x => x.wh)).Nodup) : ∀ i : Nat, ((offM m ord now i).map (fun x => x.wh)).Nodup
 | 0 => h
 | i + 1 => insE_nd _ _ (keepW_nd _ _ (offM_nd m ord now h i)) (fun y hy => keepW_ne y hy)
theorem offM_srt {m : List Ent} {ord : Int} (now : Int) (h : Srt m ord) : ∀ i : Nat, Srt (offM m ord now i) (ordN ord i)
 | 0 => h
 | i + 1 => insE_srt now (i : Int) (keepW_srt _ (offM_srt now h i))
theorem Rl.offer {d : FdD} {e : MdD} (h : Rl d e) (s : SgD) (now : Int) : Rl (offD d s now) (moffI e s now e.th.length) := by
 refine ⟨h.p, h.retry, rfl, rfl, ?_, ?_, fun k hk => ?_, rfl, ?_, offM_srt now h.srt _, fun x hx => ?_, offM_nd _ _ _ h.nd _, h.done, h.dh, h.dk⟩
 ·show e.th = (d.l.map rst).map _
  rw [h.th, List.map_map]; rfl
 ·show List.replicate e.th.length 0 ++ e.tr.drop e.th.length = (d.l.map rst).map _
  rw [h.th_len, List.drop_of_length_le (by rw [h.tr_len]; exact Nat.le_refl _), List.append_nil, List.map_map]
  exact List.map_const'.symm
 ·show (wAt (d.l.map rst) k).kept = false
  have hk : k < (d.l.map rst).length := hk
  rw [wAt_eq _ _ hk, List.getElem_map]
  rfl
 ·show offP now e.th.length = (offM d.m d.ord now d.l.length).map sh
  rw [h.th_len, offM_sh _ _ _ h.srt.tm h.srt.2 _ h.wr]
 ·have hx : x ∈ offM d.m d.ord now d.l.length := hx
  show 0 ≤ x.wh ∧ x.wh < ((d.l.map rst).length : Int)
  rw [List.length_map]
  rcases (offM_parts _ _ now h.srt.tm h.srt.2 _).2 x hx with a | a | a
  ·exact h.wr x a.1
  ·exact h.wr x a.1
  ·exact ⟨a.2.2.1, a.2.2.2⟩
theorem set_tries (l : List WtD) (k : Nat) (x : WtD) (hk : k < l.length) (hx : x.tries = (wAt l k).tries) : (l.set k x).map (fun x => x.tries) = l.map (fun x => x.tries) := by
 rw [List.map_set, hx, wAt_eq l k hk]
 have e : (l.map (fun x => x.tries))[k]'(by rw [List.length_map]; exact hk) = l[k].tries := List.getElem_map _
 rw [← e]
 exact List.set_getElem_self _
theorem set_size (l : List WtD) (k : Nat) (x : WtD) (hk : k < l.length) (hx : x.size = (wAt l k).size) : (l.set k x).map (fun x => x.size) = l.map (fun x => x.size) := by
 rw [List.map_set, hx, wAt_eq l k hk]
 have e : (l.map (fun x => x.size))[k]'(by rw [List.length_map]; exact hk) = l[k].size := List.getElem_map _
 rw [← e]
 exact List.set_getElem_self _
theorem Rl.hear {d : FdD} {e : MdD} (h : Rl d e) (wit : Int) (g : CgD) : mearB e wit g = hearB d wit g := by
 unfold mearB hearB
 rw [h.has, h.th_len, h.p, h.cur, h.kept]
 by_cases h0 : 0 ≤ wit
 ·by_cases h1 : wit < (d.l.length : Int)
  ·obtain ⟨k, rfl⟩ := Int.eq_ofNat_of_zero_le h0
   rw [Int.toNat_natCast, h.kp k (by omega)]
  ·rw [decide_eq_false h1]; simp
 ·rw [decide_eq_false h0]; simp
theorem Rl.takes {d : FdD} {e : MdD} (h : Rl d e) (wit size : Int) : mtakB e wit size = repB d wit size := by
 unfold mtakB repB
 rw [h.has, h.th_len, h.cur, h.kept, h.th_at]
 by_cases h0 : 0 ≤ wit
 ·by_cases h1 : wit < (d.l.length : Int)
  ·obtain ⟨k, rfl⟩ := Int.eq_ofNat_of_zero_le h0
   rw [Int.toNat_natCast, h.kp k (by omega)]
  ·rw [decide_eq_false h1]; simp
 ·rw [decide_eq_false h0]; simp
theorem Rl.keep0 {d : FdD} {e : MdD} (h : Rl d e) (k : Nat) (g : CgD) (hk : k < d.l.length) (hg : g.wit = (k : Int)) : Rl (keep0 d k g) (mkep0 e k g) := by
 refine ⟨h.p, h.retry, h.cur, h.has, ?_, ?_, fun j hj => ?_, ?_, ?_, keepW_srt _ h.srt, fun x hx => ?_, keepW_nd _ _ h.nd, h.done, h.dh, h.dk⟩
 ·show e.th.set k e.cur.ck.num = (d.l.set k _).map _
  rw [List.map_set, h.th, h.cur]
 ·show e.tr = (d.l.set k _).map _
  rw [h.tr]
  exact (set_tries d.l k ⟨d.cur.ck.num, (wAt d.l k).tries, true⟩ hk rfl).symm
 ·show (wAt (d.l.set k _) j).kept = hasW (d.kept ++ [g]) (j : Int)
  have hj : j < (d.l.set k _).length := hj
  rw [List.length_set] at hj
  unfold hasW
  rw [wAt_set, List.any_append, List.any_cons, List.any_nil, Bool.or_false, hg]
  by_cases hkj : k = j
  ·subst hkj
   rw [if_pos ⟨rfl, hk⟩]
   simp
  ·rw [if_neg (by omega), h.kp j hj]
   have : ((k : Int) == (j : Int)) = false := by simp; omega
   rw [this, Bool.or_false]
   rfl
 ·show e.kept ++ [g] = d.kept ++ [g]
  rw [h.kept]
 ·show canP (k : Int) e.plans = (keepW (k : Int) d.m).map sh
  rw [keepW_sh, h.pl]
 ·show 0 ≤ x.wh ∧ x.wh < ((d.l.set k _).length : Int)
  rw [List.length_set]
  exact h.wr x ((keepW_sub _ _).subset hx)
theorem Rl.keep {d : FdD} {e : MdD} (h : Rl d e) (k : Nat) (g : CgD) (hk : k < d.l.length) (hg : g.wit = (k : Int)) : Rl (keepD d k g) (mkepD e k g) := by
 have h0 := h.keep0 k g hk hg
 unfold keepD mkepD
 rw [h.p, h.kept]
 by_cases hq : d.p.quorum ≤ ((d.kept.length + 1 : Nat) : Int)
 ·rw [if_pos hq, if_pos hq]
  exact ⟨h0.p, h0.retry, h0.cur, h0.has, h0.th, h0.tr, h0.kp, h0.kept, h0.pl, h0.srt, h0.wr, h0.nd, h.cur, by simp, rfl⟩
 ·rw [if_neg hq, if_neg hq]
  exact h0
theorem Rl.size {d : FdD} {e : MdD} (h : Rl d e) (k : Nat) (size now : Int) (hk : k < d.l.length) : Rl (repD d k size now) (msizD e k size now) := by
 refine ⟨h.p, h.retry, h.cur, h.has, ?_, ?_, fun j hj => ?_, h.kept, ?_, insE_srt now (k : Int) (keepW_srt _ h.srt), fun x hx => ?_, insE_nd _ _ (keepW_nd _ _ h.nd) (fun y hy => keepW_ne y hy), h.done, h.dh, h.dk⟩
 ·show e.th.set k size = (d.l.set k _).map _
  rw [List.map_set, h.th]
 ·show e.tr = (d.l.set k _).map _
  rw [h.tr]
  exact (set_tries d.l k ⟨size, (wAt d.l k).tries, (wAt d.l k).kept⟩ hk rfl).symm
 ·show (wAt (d.l.set k _) j).kept = hasW d.kept (j : Int)
  have hj : j < (d.l.set k _).length := hj
  rw [List.length_set] at hj
  rw [wAt_set]
  by_cases hkj : k = j
  ·subst hkj
   rw [if_pos ⟨rfl, hk⟩]
   exact h.kp k hk
  ·rw [if_neg (by omega)]
   exact h.kp j hj
 ·show insP now (k : Int) (canP (k : Int) e.plans) = (insE ⟨now, d.ord, (k : Int)⟩ (keepW (k : Int) d.m)).map sh
  rw [insE_sh _ _ (h.srt.tm.sub (keepW_sub _ _)), keepW_sh, h.pl]
 ·show 0 ≤ x.wh ∧ x.wh < ((d.l.set k _).length : Int)
  rw [List.length_set]
  rcases insE_mem hx with rfl | hx
  ·show (0 : Int) ≤ (k : Int) ∧ (k : Int) < _
   omega
  ·exact h.wr x ((keepW_sub _ _).subset hx)
theorem Rl.reply {d : FdD} {e : MdD} (h : Rl d e) (wit size now : Int) (g : CgD) : mrepB e wit g size = anyRB d wit g size ∧ Rl (anyRN d wit g size now) (mrepN e wit g size now) := by
 refine ⟨by unfold mrepB anyRB; rw [h.hear, h.takes], ?_⟩
 unfold anyRN mrepN
 rw [h.hear]
 by_cases hh : hearB d wit g = true
 ·rw [if_pos hh, if_pos hh]
  unfold hearB at hh
  simp only [Bool.and_eq_true, decide_eq_true_eq] at hh
  obtain ⟨_, a2, a3, _, a5, _⟩ := hh
  exact h.keep _ g (by omega) (by omega)
 ·rw [if_neg hh, if_neg hh]
  unfold repN
  rw [h.takes]
  by_cases ht : repB d wit size = true
  ·rw [if_pos ht, if_pos ht]
   unfold repB at ht
   simp only [Bool.and_eq_true, decide_eq_true_eq] at ht
   obtain ⟨_, a2, a3, _⟩ := ht
   exact h.size _ size now (by omega)
  ·rw [if_neg ht, if_neg ht]
   exact h
theorem Rl.st1 {d : FdD} {e : MdD} (h : Rl d e) (now : Int) (k : Nat) (hk : k < d.l.length) (hn : ∀ y ∈ d.m, y.wh ≠ (k : Int)) : Rl (st1 now d k) (mst1 now e (k : Int)) := by
 have hid := keepW_id hn
 unfold Go.Proofs.YtlkgeifmppadmaaGreat.st1 mst1
 rw [hid, Int.toNat_natCast, h.tr_at, h.retry]
 refine ⟨h.p, rfl, h.cur, h.has, ?_, ?_, fun j hj => ?_, h.kept, ?_, insE_srt _ (k : Int) h.srt, fun x hx => ?_, insE_nd _ _ h.nd (fun y hy => hn y hy), h.done, h.dh, h.dk⟩
 ·show e.th = (d.l.set k _).map _
  rw [h.th]
  exact (set_size d.l k ⟨(wAt d.l k).size, (wAt d.l k).tries + 1, (wAt d.l k).kept⟩ hk rfl).symm
 ·show e.tr.set k ((wAt d.l k).tries + 1) = (d.l.set k _).map _
  rw [List.map_set, h.tr]
 ·show (wAt (d.l.set k _) j).kept = hasW d.kept (j : Int)
  have hj : j < (d.l.set k _).length := hj
  rw [List.length_set] at hj
  rw [wAt_set]
  by_cases hkj : k = j
  ·subst hkj
   rw [if_pos ⟨rfl, hk⟩]
   exact h.kp k hk
  ·rw [if_neg (by omega)]
   exact h.kp j hj
 ·show insP (now + againZ d.retry (wAt d.l k).tries) (k : Int) e.plans = (insE _ d.m).map sh
  rw [insE_sh _ _ h.srt.tm, h.pl]
 ·show 0 ≤ x.wh ∧ x.wh < ((d.l.set k _).length : Int)
  rw [List.length_set]
  rcases insE_mem hx with rfl | hx
  ·show (0 : Int) ≤ (k : Int) ∧ (k : Int) < _
   omega
  ·exact h.wr x hx
theorem Rl.stN (now : Int) : ∀ (ws : List Nat) (d : FdD) (e : MdD), Rl d e → ws.Nodup → (∀ k ∈ ws, k < d.l.length) → (∀ k ∈ ws, ∀ y ∈ d.m, y.wh ≠ (k : Int)) → Rl (stN now d ws) (mstN now e (ws.map (fun k : Nat => (k : Int))))
 | [], d, e, h, _, _, _ => h
 | k :: ws, d, e, h, hnd, hk, hn => by
  have hnd' := List.nodup_cons.1 hnd
  refine Rl.stN now ws (Go.Proofs.YtlkgeifmppadmaaGreat.st1 now d k) (mst1 now e (k : Int)) (h.st1 now k (hk k List.mem_cons_self) (hn k List.mem_cons_self)) hnd'.2 (fun j hj => ?_) (fun j hj y hy => ?_)
  ·show j < (d.l.set k _).length
   rw [List.length_set]
   exact hk j (List.mem_cons_of_mem _ hj)
  ·have hy : y ∈ insE _ (keepW (k : Int) d.m) := hy
   rcases insE_mem hy with rfl | hy
   ·show (k : Int) ≠ (j : Int)
    intro e
    have : k = j := by omega
    subst this
    exact hnd'.1 hj
   ·exact hn j (List.mem_cons_of_mem _ hj) y ((keepW_sub _ _).subset hy)
theorem Rl.drop {d : FdD} {e : MdD} (h : Rl d e) (n : Nat) : Rl { d with m := d.m.drop n } { e with plans := e.plans.drop n } :=
 ⟨h.p, h.retry, h.cur, h.has, h.th, h.tr, h.kp, h.kept, by show e.plans.drop n = (d.m.drop n).map sh; rw [List.map_drop, h.pl], ⟨List.Pairwise.sublist (List.drop_sublist _ _) h.srt.1, fun x hx => h.srt.2 x (List.mem_of_mem_drop hx)⟩, fun x hx => h.wr x (List.mem_of_mem_drop hx), List.Nodup.sublist ((List.drop_sublist n d.m).map _) h.nd, h.done, h.dh, h.dk⟩
theorem due_drop (m : List Ent) (now : Int) : dueL m now ++ m.drop (dueN m now) = m := (List.prefix_iff_eq_append.1 (List.takeWhile_prefix _))
theorem Rl.who {d : FdD} {e : MdD} (h : Rl d e) (now : Int) : mwho e.plans now = (whoL d.m now).map (fun k : Nat => (k : Int)) := by
 rw [h.pl, mwho_sh]
 unfold whoL
 rw [List.map_map]
 refine List.map_congr_left (fun x hx => ?_)
 have hm : x ∈ d.m := (List.takeWhile_prefix _).subset hx
 have := (h.wr x hm).1
 show x.wh = ((x.wh.toNat : Nat) : Int)
 omega
theorem Rl.step {d : FdD} {e : MdD} (h : Rl d e) (now : Int) : mreqL e now = reqL d now ∧ Rl (stepD d now) (mstepD e now) := by
 have hw := h.who now
 have hnd : ((whoL d.m now).map (fun k : Nat => (k : Int)) ++ (d.m.drop (dueN d.m now)).map (fun x => x.wh)).Nodup := by
  rw [← hw, h.pl, mwho_sh, ← List.map_append, due_drop]
  exact h.nd
 rw [List.nodup_append] at hnd
 obtain ⟨n1, n2, n3⟩ := hnd
 refine ⟨?_, ?_⟩
 ·unfold mreqL reqL
  rw [hw, List.map_map]
  refine List.map_congr_left (fun k _ => ?_)
  show ((k : Int), e.th.getD ((k : Int)).toNat 0) = _
  rw [Int.toNat_natCast, h.th_at]
 ·unfold stepD mstepD
  rw [hw, h.pl, mdueN_sh, ← h.pl]
  refine Rl.stN now (whoL d.m now) _ _ (h.drop _) (List.Pairwise.of_map (fun k : Nat => (k : Int)) (fun a b hab e => hab (by rw [e])) n1) (fun k hk => ?_) (fun k hk y hy => ?_)
  ·obtain ⟨x, hx, rfl⟩ := List.mem_map.1 hk
   have := h.wr x ((List.takeWhile_prefix _).subset hx)
   show x.wh.toNat < d.l.length
   omega
  ·exact fun e => n3 (k : Int) (List.mem_map_of_mem hk) y.wh (List.mem_map_of_mem hy) e.symm
theorem far5 (w : World) (b : Nat) (u0 u1 u2 u3 u4 : Value) (a : Addr) (h : b ≠ a.block) : (((((w.setCell ⟨b, 0, none⟩ u0).setCell ⟨b, 1, none⟩ u1).setCell ⟨b, 2, none⟩ u2).setCell ⟨b, 3, none⟩ u3).setCell ⟨b, 4, none⟩ u4).cell? a = w.cell? a := by
 rw [World.cell?_setCell_far _ _ _ _ h, World.cell?_setCell_far _ _ _ _ h, World.cell?_setCell_far _ _ _ _ h, World.cell?_setCell_far _ _ _ _ h, World.cell?_setCell_far _ _ _ _ h]
theorem results_row_tmp {P : Program} {fn : Func} {p u : Tmp} {ty : TypeId} (h : fn.results = #[.cell p ty, .tmp u]) (tmps : Array Value) (w : World) (g : Nat) (t : TypeId) (cs : Array Value) (fr : Nat × Nat) (d : TypeDesc)
  (hp : tmps.getD p undef = .pointer (some ⟨g, 0, none⟩)) (hg : w.heap[g]? = some (.cells cs t fr))
  (hu : P.underlying ty = some d) (hd : (match d with | .struct _ | .array _ _ => true | _ => false) = true) (hi : (P.info? ty).map (·.size) = some cs.size) (y : Value) (hy : tmps.getD u undef = y) :
  (results fn tmps).run P w = .ok (.tuple #[.agg cs, y]) w := by
 rw [results_cell_tmp h, hp, hy]
 simp [asAddr, run_loadVar_row w g t ty cs fr d hg hu hd hi, Result.andThen]
def CurPost (w : World) (d : FdD) (e : Ending) (w' : World) : Prop := ∃ v, e = .returned (.tuple #[v, .bool d.has]) ∧ SgF (Fresh w w') w' v d.cur ∧ Below w.heap.size w w'
set_option maxRecDepth 100000 in
set_option maxHeartbeats 8000000 in
theorem current_any (Z : Nat → Prop) (f : Nat) (d : FdD) (hr : d.cur.ck.root.length ≤ 100000000) (hs : SmallSig d.cur.sig) (w : World) (hok : FdAt Z w f d) :
  Calls Tryz.prog 40 #[.pointer (some ⟨f, 0, none⟩)] w (CurPost w d) := by
 obtain ⟨r, us, es, hok⟩ := hok
 have HC := Lib.hid (fun (wz : World) (v : Value) (hz : SgV wz v d.cur) => ckcopy_any v d.cur hr hs wz hz)
 obtain ⟨R, cr, er⟩ := hok.tx.cr.1.form
 obtain ⟨P, cp, ep⟩ := hok.tx.cp.rws.form
 obtain ⟨Q, cq, eq⟩ := hok.tx.cq.rws.form
 have hb0 := (Below.refl w.heap.size w).alloc (Nat.le_refl _) (.cells #[.int .i64 0, .slice none 0 0, .int .i64 0, .slice none 0 0, .slice none 0 0] 40)
 have hk0 := Blk.new w 40 [.int .i64 0, .slice none 0 0, .int .i64 0, .slice none 0 0, .slice none 0 0]
 have hfw := hok.blk.lt
 obtain ⟨base, kb, lb, ab, av, kv, ev, pl, pw, rc, rp, rq, dr, dp, dq⟩ := r
 simp only at er ep eq
 subst er ep eq
 have HW := Lib.hid (And.intro (hok.below hb0) (And.intro hk0 hb0))
 clear hb0 hk0 hok hr hs
 go_enter Tryz.func40, Tryz.ntmps40
 go_wp2
 refine code_at (fun w1 => FdOk Z w1 f d ⟨base, kb, lb, ab, av, kv, ev, pl, pw, .slice R d.cur.ck.root.length cr, .slice P d.cur.sig.parts.length cp, .slice Q d.cur.sig.path.length cq, dr, dp, dq⟩ us es ∧ Blk w1 w.heap.size 40 [.int .i64 0, .slice none 0 0, .int .i64 0, .slice none 0 0, .slice none 0 0] ∧ Below w.heap.size w w1) HW.out ?_
 rintro w1 ⟨k0, k1, kb1⟩
 have H1 := Lib.hid (And.intro k0 (And.intro k1 kb1))
 have hfl := k0.blk.lt
 have hbl := k1.lt
 have f6 : w1.cell? ⟨f, 6, none⟩ = some (.int .i64 d.cur.ck.num) := k0.blk.cell 6 _ rfl
 have f7 : w1.cell? ⟨f, 7, none⟩ = some (.slice R d.cur.ck.root.length cr) := k0.blk.cell 7 _ rfl
 have f8 : w1.cell? ⟨f, 8, none⟩ = some (.int .i64 d.cur.sig.index) := k0.blk.cell 8 _ rfl
 have f9 : w1.cell? ⟨f, 9, none⟩ = some (.slice P d.cur.sig.parts.length cp) := k0.blk.cell 9 _ rfl
 have f10 : w1.cell? ⟨f, 10, none⟩ = some (.slice Q d.cur.sig.path.length cq) := k0.blk.cell 10 _ rfl
 have f11 : w1.cell? ⟨f, 11, none⟩ = some (.bool d.has) := k0.blk.cell 11 _ rfl
 clear k0 k1 kb1 HW
 refine wp_region_held_drew (S := fun w' => w'.cell? ⟨f, 6, none⟩ = some (.int .i64 d.cur.ck.num) ∧ w'.cell? ⟨f, 7, none⟩ = some (.slice R d.cur.ck.root.length cr) ∧ w'.cell? ⟨f, 8, none⟩ = some (.int .i64 d.cur.sig.index) ∧ w'.cell? ⟨f, 9, none⟩ = some (.slice P d.cur.sig.parts.length cp) ∧ w'.cell? ⟨f, 10, none⟩ = some (.slice Q d.cur.sig.path.length cq) ∧ w'.cell? ⟨f, 11, none⟩ = some (.bool d.has)) (by kernel_rfl) ?_ (fun hHeld => ?_)
 ·exact ⟨f6, f7, f8, f9, f10, f11⟩
 refine ty 0 4 rfl rfl ?_; simp only [sa, sb, sc]
 refine ty 1 5 rfl rfl ?_; simp only [sa, sb, sc]
 refine ty 2 6 rfl rfl ?_; simp only [sa, sb, sc]
 refine ty 3 7 rfl rfl ?_; simp only [sa, sb, sc]
 refine ty 5 9 rfl rfl ?_; simp only [sa, sb, sc]
 refine ty 6 10 rfl rfl ?_; simp only [sa, sb, sc]
 refine ty 7 11 rfl rfl ?_; simp only [sa, sb, sc]
 refine ty 8 12 rfl rfl ?_; simp only [sa, sb, sc]
 refine rd 4 (by kernel_rfl) rfl (fun K hK => ?_)
 go_simp
 go_at_call 28
 refine (HC.out w1.drew _ ⟨_, _, _, rfl, H1.out.1.tx.cr.1.below (Below.refl _ _).drew, H1.out.1.tx.cp.rws.below (Below.refl _ _).drew, H1.out.1.tx.cq.rws.below (Below.refl _ _).drew⟩).mono ?_
 rintro e w3 ⟨v3, rfl, ⟨r3, p3, q3, rfl, h3, h4, h5⟩, h6'⟩
 obtain ⟨A3, n3, rfl⟩ := h3.1.form
 obtain ⟨A4, n4, rfl⟩ := h4.rws.form
 obtain ⟨A5, n5, rfl⟩ := h5.rws.form
 have h6 : Below w1.heap.size w1 w3 := ⟨h6'.os, h6'.tape, h6'.output, h6'.size, h6'.block⟩
 have kf := H1.out.1.blk.below h6
 have kz := H1.out.2.1.below h6
 have e6 := kf.cell 6 _ rfl
 have e7 := kf.cell 7 _ rfl
 have e8 := kf.cell 8 _ rfl
 have e9 := kf.cell 9 _ rfl
 have e10 := kf.cell 10 _ rfl
 have e11 := kf.cell 11 _ rfl
 have z0 := kz.cell 0 _ rfl
 have z1 := kz.cell 1 _ rfl
 have z2 := kz.cell 2 _ rfl
 have z3 := kz.cell 3 _ rfl
 have z4 := kz.cell 4 _ rfl
 have y0 := kz.free 0
 have y1 := kz.free 1
 have y2 := kz.free 2
 have y3 := kz.free 3
 have y4 := kz.free 4
 have H3 := Lib.hid (And.intro (show BysF (fun g => w1.heap.size ≤ g ∧ g < w3.heap.size) w3 _ d.cur.ck.root from h3) (And.intro (show RwsF (fun g => w1.heap.size ≤ g ∧ g < w3.heap.size) w3 _ d.cur.sig.parts from h4) (And.intro (show RwsF (fun g => w1.heap.size ≤ g ∧ g < w3.heap.size) w3 _ d.cur.sig.path from h5) (And.intro h6 kz))))
 clear h3 h4 h5 h6 h6' kf kz
 go_wp2_with fail
 refine hK.out _ _ ⟨e6, e7, e8, e9, e10, e11⟩ (fun hHeld4 => ?_)
 clear hK K; try simp only [Act.put, sa, sb, sc]
 refine rd 9 (by kernel_rfl) rfl (fun K hK => ?_)
 go_simp
 refine hK.out _ _ (by refine ⟨?_, ?_, ?_, ?_, ?_, ?_⟩ <;> refine (far5 w3 w.heap.size _ _ _ _ _ _ (show w.heap.size ≠ f by omega)).trans ?_ <;> assumption) (fun hHeld9 => ?_)
 clear hK K; try simp only [Act.put, sa, sb, sc]
 refine ty 10 3 rfl rfl ?_; simp only [sa, sb, sc]
 refine wpAnyH_done (by kernel_rfl) ?_ _
 have hch : Chg w3 (((((w3.setCell ⟨w.heap.size, 0, none⟩ (.int .i64 d.cur.ck.num)).setCell ⟨w.heap.size, 1, none⟩ (.slice A3 d.cur.ck.root.length n3)).setCell ⟨w.heap.size, 2, none⟩ (.int .i64 d.cur.sig.index)).setCell ⟨w.heap.size, 3, none⟩ (.slice A4 d.cur.sig.parts.length n4)).setCell ⟨w.heap.size, 4, none⟩ (.slice A5 d.cur.sig.path.length n5)) (fun k => k = w.heap.size) := chg_cell (chg_cell (chg_cell (chg_cell (chg_cell (Chg.refl w3 _) 0 _) 1 _) 2 _) 3 _) 4 _
 have hfin : Blk (((((w3.setCell ⟨w.heap.size, 0, none⟩ (.int .i64 d.cur.ck.num)).setCell ⟨w.heap.size, 1, none⟩ (.slice A3 d.cur.ck.root.length n3)).setCell ⟨w.heap.size, 2, none⟩ (.int .i64 d.cur.sig.index)).setCell ⟨w.heap.size, 3, none⟩ (.slice A4 d.cur.sig.parts.length n4)).setCell ⟨w.heap.size, 4, none⟩ (.slice A5 d.cur.sig.path.length n5)) w.heap.size 40 [.int .i64 d.cur.ck.num, .slice A3 d.cur.ck.root.length n3, .int .i64 d.cur.sig.index, .slice A4 d.cur.sig.parts.length n4, .slice A5 d.cur.sig.path.length n5] := ((((H3.out.2.2.2.2.set 0 _ (by simp)).set 1 _ (by simp)).set 2 _ (by simp)).set 3 _ (by simp)).set 4 _ (by simp)
 generalize ((((w3.setCell ⟨w.heap.size, 0, none⟩ (.int .i64 d.cur.ck.num)).setCell ⟨w.heap.size, 1, none⟩ (.slice A3 d.cur.ck.root.length n3)).setCell ⟨w.heap.size, 2, none⟩ (.int .i64 d.cur.sig.index)).setCell ⟨w.heap.size, 3, none⟩ (.slice A4 d.cur.sig.parts.length n4)).setCell ⟨w.heap.size, 4, none⟩ (.slice A5 d.cur.sig.path.length n5) = w4 at *
 have HF := Lib.hid (And.intro hch hfin)
 clear hch hfin z0 z1 z2 z3 z4 y0 y1 y2 y3 y4 e6 e7 e8 e9 e10 e11 f6 f7 f8 f9 f10 f11
 go_wp2
 obtain ⟨h5, h4, h6, h7, -⟩ := H3.out
 refine bodyPost_ret (v := .tuple #[.agg [.int .i64 d.cur.ck.num, .slice A3 d.cur.ck.root.length n3, .int .i64 d.cur.sig.index, .slice A4 d.cur.sig.parts.length n4, .slice A5 d.cur.sig.path.length n5].toArray, .bool d.has]) ?_ ?_ ⟨_, rfl, ⟨_, _, _, rfl, ?_, ?_, ?_⟩, ?_⟩
 ·exact results_row_tmp Tryz.results40 _ _ w.heap.size 40 _ (0, 0) _ rfl HF.out.2 under_signed rfl size_signed _ rfl
 ·rfl
 ·exact (h5.chg HF.out.1 (fun g hg e => by have h1 : w1.heap.size ≤ g := hg.1; have h2 : g = w.heap.size := e; omega)).mono (fun g hg => ⟨by have h1 : w1.heap.size ≤ g := hg.1; omega, by have h1 : g < w3.heap.size := hg.2; have := HF.out.1.size; omega⟩)
 ·exact (h4.chg HF.out.1 (fun g hg e => by have h1 : w1.heap.size ≤ g := hg.1; have h2 : g = w.heap.size := e; omega)).mono (fun g hg => ⟨by have h1 : w1.heap.size ≤ g := hg.1; omega, by have h1 : g < w3.heap.size := hg.2; have := HF.out.1.size; omega⟩)
 ·exact (h6.chg HF.out.1 (fun g hg e => by have h1 : w1.heap.size ≤ g := hg.1; have h2 : g = w.heap.size := e; omega)).mono (fun g hg => ⟨by have h1 : w1.heap.size ≤ g := hg.1; omega, by have h1 : g < w3.heap.size := hg.2; have := HF.out.1.size; omega⟩)
 ·exact (H1.out.2.2.trans (h7.mono H1.out.2.2.size)).trans (HF.out.1.below (by have := h7.size; have := H1.out.2.2.size; omega) (fun k hk => by omega))
set_option maxRecDepth 100000 in
set_option maxHeartbeats 2000000 in
theorem rcksame_any (va vb : Value) (c : CkD) (w : World) (ha : CkV w va c) (hb : CkV w vb c) :
  Calls Tryz.prog 68 #[va, vb] w fun e w' => e = .returned (.bool true) ∧ Below w.heap.size w w' := by
 obtain ⟨p, rfl, h1⟩ := ha
 obtain ⟨q, rfl, h2⟩ := hb
 obtain ⟨A, ca, rfl⟩ := h1.form
 obtain ⟨B, cb, rfl⟩ := h2.form
 have hb1 := (Below.refl w.heap.size w).alloc (Nat.le_refl _) (.cells #[.int .i64 c.num, .slice A c.root.length ca] 36)
 have hb2 := hb1.alloc (by simp) (.cells #[.int .i64 c.num, .slice B c.root.length cb] 36)
 have c1 := run_string_bys _ _ _ (h1.below hb2)
 have c2 := run_string_bys _ _ _ (h2.below hb2)
 have HB := Lib.hid hb2
 clear h1 h2 hb1 hb2
 generalize c.root = R at *
 generalize c.num = n at *
 go_enter Tryz.func68, Tryz.ntmps68
 go_wp2
 go_ret
 exact ⟨rfl, HB.out⟩
set_option maxRecDepth 100000 in
set_option maxHeartbeats 4000000 in
theorem rsgsame_any (va vb : Value) (s : SigD) (hp : s.parts.length ≤ 1000000) (hq : s.path.length ≤ 1000000) (w : World) (ha : SigV w va s) (hb : SigV w vb s) :
  Calls Tryz.prog 69 #[va, vb] w fun e w' => e = .returned (.bool true) ∧ Below w.heap.size w w' := by
 obtain ⟨p1, q1, rfl, h1, h2⟩ := ha
 obtain ⟨p2, q2, rfl, h3, h4⟩ := hb
 obtain ⟨A, ca, rfl⟩ := h1.form
 obtain ⟨B, cb, rfl⟩ := h2.form
 obtain ⟨C, cc, rfl⟩ := h3.form
 obtain ⟨D, cd, rfl⟩ := h4.form
 obtain ⟨ix, Ps, Qs⟩ := s
 have hb1 := (Below.refl w.heap.size w).alloc (Nat.le_refl _) (.cells #[.int .i64 ix, .slice A Ps.length ca, .slice B Qs.length cb] 38)
 have hb2 := hb1.alloc (by simp) (.cells #[.int .i64 ix, .slice C Ps.length cc, .slice D Qs.length cd] 38)
 have k1 := (Blk.new w 38 [.int .i64 ix, .slice A Ps.length ca, .slice B Qs.length cb]).below ((Below.refl _ _).alloc (Nat.le_refl _) (.cells #[.int .i64 ix, .slice C Ps.length cc, .slice D Qs.length cd] 38))
 have k2 := Blk.new (w.alloc (.cells #[.int .i64 ix, .slice A Ps.length ca, .slice B Qs.length cb] 38)) 38 [.int .i64 ix, .slice C Ps.length cc, .slice D Qs.length cd]
 rw [show (w.alloc (.cells #[.int .i64 ix, .slice A Ps.length ca, .slice B Qs.length cb] 38)).heap.size = w.heap.size + 1 by simp] at k2
 have HW := Lib.hid (And.intro k1 (And.intro k2 hb2))
 have HX := Lib.hid (And.intro h1 (And.intro h2 (And.intro h3 h4)))
 clear h1 h2 h3 h4 hb1 hb2 k1 k2
 go_enter Tryz.func69, Tryz.ntmps69
 go_wp2
 go_loopw [5] (fun v wr => ∃ i : Nat, v = .int .i64 i ∧ i ≤ Ps.length ∧ Hid (Below w.heap.size w wr ∧ Blk wr w.heap.size 38 [.int .i64 ix, .slice A Ps.length ca, .slice B Qs.length cb] ∧ Blk wr (w.heap.size + 1) 38 [.int .i64 ix, .slice C Ps.length cc, .slice D Qs.length cd])) (fun v _ => Ps.length - (intOf v).toNat)
 case atStart => exact ⟨0, rfl, Nat.zero_le _, Lib.hid ⟨HW.out.2.2, HW.out.1, HW.out.2.1⟩⟩
 case round =>
  obtain ⟨i, rfl, hi, HI⟩ := hrel
  have a1 := HI.out.2.1.cell 1 _ rfl
  have a2 := HI.out.2.1.cell 2 _ rfl
  have b1 := HI.out.2.2.cell 1 _ rfl
  have b2 := HI.out.2.2.cell 2 _ rfl
  have l1 := HI.out.2.1.lt
  have l2 := HI.out.2.2.lt
  by_cases hlt : i < Ps.length
  ·obtain ⟨ga, oa, ua, rfl, hga, -, hca, hcua, hua⟩ := (HX.out.1.below HI.out.1).get i hlt
   obtain ⟨gb, ob, ub', rfl, hgb, -, hcb, hcub, hub⟩ := (HX.out.2.2.1.below HI.out.1).get i hlt
   obtain ⟨UA, na, rfl⟩ := hua.form
   obtain ⟨UB, nb, rfl⟩ := hub.form
   have r1 := run_string_bys wr.drew _ _ (hua.below (Below.refl _ _).drew)
   have r2 := run_string_bys wr.drew _ _ (hub.below (Below.refl _ _).drew)
   clear hua hub
   generalize Ps.getD i [] = X at *
   go_wp2
   refine wp_region_held_drew (S := fun w' => w'.cell? ⟨w.heap.size, 1, none⟩ = some (.slice (some ⟨ga, oa, none⟩) Ps.length ca) ∧ w'.cell? ⟨w.heap.size + 1, 1, none⟩ = some (.slice (some ⟨gb, ob, none⟩) Ps.length cc) ∧ w'.cell? ⟨ga, oa + i, none⟩ = some (.slice UA X.length na) ∧ w'.cell? ⟨gb, ob + i, none⟩ = some (.slice UB X.length nb) ∧ (convert 26 9 (.slice UA X.length na)).run Tryz.prog w' = .ok (.string ⟨X.toArray⟩) w' ∧ (convert 26 9 (.slice UB X.length nb)).run Tryz.prog w' = .ok (.string ⟨X.toArray⟩) w') (by kernel_rfl) ?_ (fun hHeld => ?_)
   ·exact ⟨a1, b1, hcua, hcub, r1, r2⟩
   refine ty 0 37 rfl rfl ?_; simp only [sa, sb, sc]
   refine ty 1 38 rfl rfl ?_; simp only [sa, sb, sc]
   refine ty 2 39 rfl rfl ?_; simp only [sa, sb, sc]
   refine ty 3 40 rfl rfl ?_; simp only [sa, sb, sc]
   refine ty 4 41 rfl rfl ?_; simp only [sa, sb, sc]
   refine ty 5 42 rfl rfl ?_; simp only [sa, sb, sc]
   refine ty 6 43 rfl rfl ?_; simp only [sa, sb, sc]
   refine ty 7 44 rfl rfl ?_; simp only [sa, sb, sc]
   refine ty 8 45 rfl rfl ?_; simp only [sa, sb, sc]
   refine ty 9 46 rfl rfl ?_; simp only [sa, sb, sc]
   refine ty 10 47 rfl rfl ?_; simp only [sa, sb, sc]
   refine ty 11 48 rfl rfl ?_; simp only [sa, sb, sc]
   refine ty 12 49 rfl rfl ?_; simp only [sa, sb, sc]
   refine wpAnyH_done (by kernel_rfl) ?_ _
   have hd := (Below.refl wr.heap.size wr).drew
   have HN := Lib.hid (And.intro (HI.out.1.trans (hd.mono HI.out.1.size)) (And.intro (HI.out.2.1.below hd) (HI.out.2.2.below hd)))
   clear hd hHeld r1 r2 hcua hcub
   generalize wr.drew = w2 at *
   go_wp2
   go_roundw
   case rel => exact ⟨i + 1, by go_num, by omega, HN⟩
   case measure => simp [intOf]; omega
  ·obtain rfl : i = Ps.length := by omega
   go_wp2
   go_loopw [6] (fun v wr => ∃ i : Nat, v = .int .i64 i ∧ i ≤ Qs.length ∧ Hid (Below w.heap.size w wr ∧ Blk wr w.heap.size 38 [.int .i64 ix, .slice A Ps.length ca, .slice B Qs.length cb] ∧ Blk wr (w.heap.size + 1) 38 [.int .i64 ix, .slice C Ps.length cc, .slice D Qs.length cd])) (fun v _ => Qs.length - (intOf v).toNat)
   case atStart => exact ⟨0, rfl, Nat.zero_le _, HI⟩
   case round =>
    clear a1 a2 b1 b2 l1 l2 HI
    obtain ⟨i, rfl, hi, HI⟩ := hrel
    have a2 := HI.out.2.1.cell 2 _ rfl
    have b2 := HI.out.2.2.cell 2 _ rfl
    have l1 := HI.out.2.1.lt
    have l2 := HI.out.2.2.lt
    by_cases hlt : i < Qs.length
    ·obtain ⟨ga, oa, ua, rfl, hga, -, hca, hcua, hua⟩ := (HX.out.2.1.below HI.out.1).get i hlt
     obtain ⟨gb, ob, ub', rfl, hgb, -, hcb, hcub, hub⟩ := (HX.out.2.2.2.below HI.out.1).get i hlt
     obtain ⟨UA, na, rfl⟩ := hua.form
     obtain ⟨UB, nb, rfl⟩ := hub.form
     have r1 := run_string_bys wr.drew _ _ (hua.below (Below.refl _ _).drew)
     have r2 := run_string_bys wr.drew _ _ (hub.below (Below.refl _ _).drew)
     clear hua hub
     generalize Qs.getD i [] = X at *
     go_wp2
     refine wp_region_held_drew (S := fun w' => w'.cell? ⟨w.heap.size, 2, none⟩ = some (.slice (some ⟨ga, oa, none⟩) Qs.length cb) ∧ w'.cell? ⟨w.heap.size + 1, 2, none⟩ = some (.slice (some ⟨gb, ob, none⟩) Qs.length cd) ∧ w'.cell? ⟨ga, oa + i, none⟩ = some (.slice UA X.length na) ∧ w'.cell? ⟨gb, ob + i, none⟩ = some (.slice UB X.length nb) ∧ (convert 26 9 (.slice UA X.length na)).run Tryz.prog w' = .ok (.string ⟨X.toArray⟩) w' ∧ (convert 26 9 (.slice UB X.length nb)).run Tryz.prog w' = .ok (.string ⟨X.toArray⟩) w') (by kernel_rfl) ?_ (fun hHeld => ?_)
     ·exact ⟨a2, b2, hcua, hcub, r1, r2⟩
     refine ty 0 57 rfl rfl ?_; simp only [sa, sb, sc]
     refine ty 1 58 rfl rfl ?_; simp only [sa, sb, sc]
     refine ty 2 59 rfl rfl ?_; simp only [sa, sb, sc]
     refine ty 3 60 rfl rfl ?_; simp only [sa, sb, sc]
     refine ty 4 61 rfl rfl ?_; simp only [sa, sb, sc]
     refine ty 5 62 rfl rfl ?_; simp only [sa, sb, sc]
     refine ty 6 63 rfl rfl ?_; simp only [sa, sb, sc]
     refine ty 7 64 rfl rfl ?_; simp only [sa, sb, sc]
     refine ty 8 65 rfl rfl ?_; simp only [sa, sb, sc]
     refine ty 9 66 rfl rfl ?_; simp only [sa, sb, sc]
     refine ty 10 67 rfl rfl ?_; simp only [sa, sb, sc]
     refine ty 11 68 rfl rfl ?_; simp only [sa, sb, sc]
     refine ty 12 69 rfl rfl ?_; simp only [sa, sb, sc]
     refine wpAnyH_done (by kernel_rfl) ?_ _
     have hd := (Below.refl wr.heap.size wr).drew
     have HN := Lib.hid (And.intro (HI.out.1.trans (hd.mono HI.out.1.size)) (And.intro (HI.out.2.1.below hd) (HI.out.2.2.below hd)))
     clear hd hHeld r1 r2 hcua hcub
     generalize wr.drew = w2 at *
     go_wp2
     go_roundw
     case rel => exact ⟨i + 1, by go_num, by omega, HN⟩
     case measure => simp [intOf]; omega
    ·obtain rfl : i = Qs.length := by omega
     go_wp2
     go_ret
     exact ⟨rfl, HI.out.1⟩
set_option maxRecDepth 100000 in
set_option maxHeartbeats 4000000 in
theorem equal_same (va vb : Value) (s : SgD) (hs : SmallSig s.sig) (hp : s.sig.parts.length ≤ 1000000) (hq : s.sig.path.length ≤ 1000000) (w : World) (ha : SgV w va s) (hb : SgV w vb s) :
  Calls Tryz.prog 41 #[va, vb] w fun e w' => e = .returned (.bool true) ∧ Below w.heap.size w w' := by
 have HC := Lib.hid (fun (wz : World) (u v : Value) (z1 : CkV wz u s.ck) (z2 : CkV wz v s.ck) => rcksame_any u v s.ck wz z1 z2)
 have HS := Lib.hid (fun (wz : World) (u v : Value) (z1 : SigV wz u s.sig) (z2 : SigV wz v s.sig) => rsgsame_any u v s.sig hp hq wz z1 z2)
 obtain ⟨r1, p1, q1, rfl, h1, h2, h3⟩ := ha
 obtain ⟨r2, p2, q2, rfl, h4, h5, h6⟩ := hb
 obtain ⟨R1, c1, rfl⟩ := h1.form
 obtain ⟨A1, a1, rfl⟩ := h2.form
 obtain ⟨B1, b1, rfl⟩ := h3.form
 obtain ⟨R2, c2, rfl⟩ := h4.form
 obtain ⟨A2, a2, rfl⟩ := h5.form
 obtain ⟨B2, b2, rfl⟩ := h6.form
 have hb1 := (Below.refl w.heap.size w).alloc (Nat.le_refl _) (.cells #[.int .i64 s.ck.num, .slice R1 s.ck.root.length c1, .int .i64 s.sig.index, .slice A1 s.sig.parts.length a1, .slice B1 s.sig.path.length b1] 40)
 have hb2 := hb1.alloc (by simp) (.cells #[.int .i64 s.ck.num, .slice R2 s.ck.root.length c2, .int .i64 s.sig.index, .slice A2 s.sig.parts.length a2, .slice B2 s.sig.path.length b2] 40)
 have k1 := (Blk.new w 40 [.int .i64 s.ck.num, .slice R1 s.ck.root.length c1, .int .i64 s.sig.index, .slice A1 s.sig.parts.length a1, .slice B1 s.sig.path.length b1]).below ((Below.refl _ _).alloc (Nat.le_refl _) (.cells #[.int .i64 s.ck.num, .slice R2 s.ck.root.length c2, .int .i64 s.sig.index, .slice A2 s.sig.parts.length a2, .slice B2 s.sig.path.length b2] 40))
 have k2 := Blk.new (w.alloc (.cells #[.int .i64 s.ck.num, .slice R1 s.ck.root.length c1, .int .i64 s.sig.index, .slice A1 s.sig.parts.length a1, .slice B1 s.sig.path.length b1] 40)) 40 [.int .i64 s.ck.num, .slice R2 s.ck.root.length c2, .int .i64 s.sig.index, .slice A2 s.sig.parts.length a2, .slice B2 s.sig.path.length b2]
 rw [show (w.alloc (.cells #[.int .i64 s.ck.num, .slice R1 s.ck.root.length c1, .int .i64 s.sig.index, .slice A1 s.sig.parts.length a1, .slice B1 s.sig.path.length b1] 40)).heap.size = w.heap.size + 1 by simp] at k2
 have HW := Lib.hid (And.intro k1 (And.intro k2 hb2))
 have HX := Lib.hid (And.intro (And.intro h1 (And.intro h2 h3)) (And.intro h4 (And.intro h5 h6)))
 clear h1 h2 h3 h4 h5 h6 hb1 hb2 k1 k2
 go_enter Tryz.func41, Tryz.ntmps41
 go_wp2_with fail
 refine (HC.out _ _ _ ⟨_, rfl, HX.out.1.1.below HW.out.2.2⟩ ⟨_, rfl, HX.out.2.1.below HW.out.2.2⟩).mono ?_
 rintro e w1 ⟨rfl, h⟩
 have H1 := Lib.hid (And.intro (HW.out.1.below h) (And.intro (HW.out.2.1.below h) (HW.out.2.2.trans (h.mono (by simp; omega)))))
 clear h
 have c2 := H1.out.1.cell 2 _ rfl
 have c3 := H1.out.1.cell 3 _ rfl
 have c4 := H1.out.1.cell 4 _ rfl
 have d2 := H1.out.2.1.cell 2 _ rfl
 have d3 := H1.out.2.1.cell 3 _ rfl
 have d4 := H1.out.2.1.cell 4 _ rfl
 have l1 := H1.out.1.lt
 have l2 := H1.out.2.1.lt
 go_wp2_with fail
 refine (HS.out _ _ _ ⟨_, _, rfl, HX.out.1.2.1.below H1.out.2.2, HX.out.1.2.2.below H1.out.2.2⟩ ⟨_, _, rfl, HX.out.2.2.1.below H1.out.2.2, HX.out.2.2.2.below H1.out.2.2⟩).mono ?_
 rintro e w2 ⟨rfl, h⟩
 have H2 := Lib.hid (H1.out.2.2.trans (h.mono H1.out.2.2.size))
 clear h
 go_wp2
 go_ret
 exact ⟨rfl, H2.out⟩
set_option maxRecDepth 100000 in
set_option maxHeartbeats 8000000 in
theorem cosigs_same (va vb : Value) (gs : List CgD) (hs : ∀ g ∈ gs, g.sig.parts.length ≤ 1000000 ∧ g.sig.path.length ≤ 1000000) (hgl : gs.length ≤ 1000000) (w : World) (ha : CgsV w va gs) (hb : CgsV w vb gs) :
  Calls Tryz.prog 42 #[va, vb] w fun e w' => e = .returned (.bool true) ∧ Below w.heap.size w w' := by
 have HSAME := Lib.hid (fun (s : SigD) (hp : s.parts.length ≤ 1000000) (hq : s.path.length ≤ 1000000) (wz : World) (u v : Value) (z1 : SigV wz u s) (z2 : SigV wz v s) => rsgsame_any u v s hp hq wz z1 z2)
 have HSM := Lib.hid hs
 obtain ⟨A, ca, rfl⟩ := ha.form
 obtain ⟨B, cb, rfl⟩ := hb.form
 have HX := Lib.hid (And.intro ha hb)
 clear ha hb hs
 go_enter Tryz.func42, Tryz.ntmps42
 go_wp2
 go_loopw [5] (fun v wr => ∃ i : Nat, v = .int .i64 i ∧ i ≤ gs.length ∧ Hid (Below w.heap.size w wr)) (fun v _ => gs.length - (intOf v).toNat)
 case atStart => exact ⟨0, rfl, Nat.zero_le _, Lib.hid (Below.refl _ _)⟩
 case round =>
  obtain ⟨i, rfl, hi, HI⟩ := hrel
  by_cases hlt : i < gs.length
  ·obtain ⟨ga, oa, rfl, hga, -, hra, hra2, halla⟩ := HX.out.1.get (by omega)
   obtain ⟨gb, ob, rfl, hgb, -, hrb, hrb2, hallb⟩ := HX.out.2.get (by omega)
   obtain ⟨P1, cp1, Q1, cq1, a0, a1, a2, a3, a4, a5⟩ := halla i hlt
   obtain ⟨P2, cp2, Q2, cq2, b0, b1, b2, b3, b4, b5⟩ := hallb i hlt
   have hgm : (gs.getD i ⟨0, ⟨0, [], []⟩⟩) ∈ gs := by rw [List.getD_eq_getElem?_getD, List.getElem?_eq_getElem hlt]; exact List.getElem_mem hlt
   have HSG := Lib.hid (HSAME.out (gs.getD i ⟨0, ⟨0, [], []⟩⟩).sig (HSM.out _ hgm).1 (HSM.out _ hgm).2)
   have HEA := Lib.hid (And.intro a0 (And.intro a1 (And.intro a2 (And.intro a3 (And.intro a4 a5)))))
   have HEB := Lib.hid (And.intro b0 (And.intro b1 (And.intro b2 (And.intro b3 (And.intro b4 b5)))))
   unfold maxLen at hra2 hrb2
   clear halla hallb a0 a1 a2 a3 a4 a5 b0 b1 b2 b3 b4 b5 hgm
   generalize (gs.getD i ⟨0, ⟨0, [], []⟩⟩) = G at *
   have z0 := (HI.out.cell (p := ⟨ga, oa + i * 4, none⟩) hga).trans HEA.out.1
   have z1 := (HI.out.cell (p := ⟨ga, oa + i * 4 + 1, none⟩) hga).trans HEA.out.2.1
   have z2 := (HI.out.cell (p := ⟨ga, oa + i * 4 + 2, none⟩) hga).trans HEA.out.2.2.1
   have z3 := (HI.out.cell (p := ⟨ga, oa + i * 4 + 3, none⟩) hga).trans HEA.out.2.2.2.1
   have z4 := (HI.out.cell (p := ⟨gb, ob + i * 4, none⟩) hgb).trans HEB.out.1
   have z5 := (HI.out.cell (p := ⟨gb, ob + i * 4 + 1, none⟩) hgb).trans HEB.out.2.1
   have z6 := (HI.out.cell (p := ⟨gb, ob + i * 4 + 2, none⟩) hgb).trans HEB.out.2.2.1
   have z7 := (HI.out.cell (p := ⟨gb, ob + i * 4 + 3, none⟩) hgb).trans HEB.out.2.2.2.1
   have hla : ga < wr.heap.size := by have := HI.out.size; omega
   have hlb : gb < wr.heap.size := by have := HI.out.size; omega
   go_wp2
   refine wp_region_held_drew (S := fun w' => w'.cell? ⟨ga, oa + i * 4, none⟩ = some (.int .i64 G.wit) ∧ w'.cell? ⟨ga, oa + i * 4 + 1, none⟩ = some (.int .i64 G.sig.index) ∧ w'.cell? ⟨ga, oa + i * 4 + 2, none⟩ = some (.slice P1 G.sig.parts.length cp1) ∧ w'.cell? ⟨ga, oa + i * 4 + 3, none⟩ = some (.slice Q1 G.sig.path.length cq1) ∧ w'.cell? ⟨gb, ob + i * 4, none⟩ = some (.int .i64 G.wit) ∧ w'.cell? ⟨gb, ob + i * 4 + 1, none⟩ = some (.int .i64 G.sig.index) ∧ w'.cell? ⟨gb, ob + i * 4 + 2, none⟩ = some (.slice P2 G.sig.parts.length cp2) ∧ w'.cell? ⟨gb, ob + i * 4 + 3, none⟩ = some (.slice Q2 G.sig.path.length cq2)) (by kernel_rfl) ?_ (fun hHeld => ?_)
   ·exact ⟨z0, z1, z2, z3, z4, z5, z6, z7⟩
   refine ty 0 17 rfl rfl ?_; simp only [sa, sb, sc]
   refine ty 1 18 rfl rfl ?_; simp only [sa, sb, sc]
   refine ty 2 19 rfl rfl ?_; simp only [sa, sb, sc]
   refine ty 3 20 rfl rfl ?_; simp only [sa, sb, sc]
   refine ty 4 21 rfl rfl ?_; simp only [sa, sb, sc]
   refine ty 5 22 rfl rfl ?_; simp only [sa, sb, sc]
   refine ty 6 23 rfl rfl ?_; simp only [sa, sb, sc]
   refine ty 7 24 rfl rfl ?_; simp only [sa, sb, sc]
   refine ty 8 25 rfl rfl ?_; simp only [sa, sb, sc]
   refine ty 9 26 rfl rfl ?_; simp only [sa, sb, sc]
   refine ty 10 27 rfl rfl ?_; simp only [sa, sb, sc]
   refine ty 11 28 rfl rfl ?_; simp only [sa, sb, sc]
   refine ty 12 29 rfl rfl ?_; simp only [sa, sb, sc]
   refine ty 13 30 rfl rfl ?_; simp only [sa, sb, sc]
   refine ty 14 31 rfl rfl ?_; simp only [sa, sb, sc]
   refine ty 15 32 rfl rfl ?_; simp only [sa, sb, sc]
   refine ty 16 33 rfl rfl ?_; simp only [sa, sb, sc]
   refine ty 17 34 rfl rfl ?_; simp only [sa, sb, sc]
   refine ty 18 35 rfl rfl ?_; simp only [sa, sb, sc]
   refine ty 19 36 rfl rfl ?_; simp only [sa, sb, sc]
   refine ty 20 37 rfl rfl ?_; simp only [sa, sb, sc]
   refine ty 21 38 rfl rfl ?_; simp only [sa, sb, sc]
   refine rd 22 (by kernel_rfl) rfl (fun K hK => ?_)
   go_simp
   go_at_call 69
   refine (HSG.out wr.drew _ _ ⟨_, _, rfl, (HEA.out.2.2.2.2.1.below HI.out).below (Below.refl wr.heap.size wr).drew, (HEA.out.2.2.2.2.2.below HI.out).below (Below.refl wr.heap.size wr).drew⟩ ⟨_, _, rfl, (HEB.out.2.2.2.2.1.below HI.out).below (Below.refl wr.heap.size wr).drew, (HEB.out.2.2.2.2.2.below HI.out).below (Below.refl wr.heap.size wr).drew⟩).mono ?_
   rintro e w1 ⟨rfl, hb'⟩
   have hh : Below wr.heap.size wr w1 := ⟨hb'.os, hb'.tape, hb'.output, hb'.size, hb'.block⟩
   have H1 := Lib.hid (HI.out.trans (hh.mono HI.out.size))
   have x0 := (hh.cell (p := ⟨ga, oa + i * 4, none⟩) hla).trans z0
   have x1 := (hh.cell (p := ⟨ga, oa + i * 4 + 1, none⟩) hla).trans z1
   have x2 := (hh.cell (p := ⟨ga, oa + i * 4 + 2, none⟩) hla).trans z2
   have x3 := (hh.cell (p := ⟨ga, oa + i * 4 + 3, none⟩) hla).trans z3
   have x4 := (hh.cell (p := ⟨gb, ob + i * 4, none⟩) hlb).trans z4
   have x5 := (hh.cell (p := ⟨gb, ob + i * 4 + 1, none⟩) hlb).trans z5
   have x6 := (hh.cell (p := ⟨gb, ob + i * 4 + 2, none⟩) hlb).trans z6
   have x7 := (hh.cell (p := ⟨gb, ob + i * 4 + 3, none⟩) hlb).trans z7
   clear hh hb'
   try dsimp only
   refine hK.out _ _ ⟨x0, x1, x2, x3, x4, x5, x6, x7⟩ (fun hHeld22 => ?_)
   clear hK K; try simp only [Act.put, sa, sb, sc]
   refine ty 23 40 rfl rfl ?_; simp only [sa, sb, sc]
   refine ty 24 41 rfl rfl ?_; simp only [sa, sb, sc]
   refine wpAnyH_done (by kernel_rfl) ?_ _
   go_wp2
   go_roundw
   case rel => exact ⟨i + 1, by go_num, by omega, H1⟩
   case measure => simp [intOf]; omega
  ·obtain rfl : i = gs.length := by omega
   go_wp2
   go_ret
   exact ⟨rfl, HI.out⟩
set_option maxRecDepth 100000
set_option linter.unusedSimpArgs false



def withinZ (n lo hi : Int) : Int := if lo ≤ n ∧ n ≤ hi then n else lo + (if n.tmod (hi - lo + 1) < 0 then n.tmod (hi - lo + 1) + hi - lo + 1 else n.tmod (hi - lo + 1))
theorem withinZ_ge (n lo hi : Int) (h : lo ≤ hi) : lo ≤ withinZ n lo hi ∧ withinZ n lo hi ≤ hi := by
 unfold withinZ
 have h1 : (n.tmod (hi - lo + 1)).natAbs < (hi - lo + 1).natAbs := by
  rw [Int.natAbs_tmod]
  exact Nat.mod_lt _ (by omega)
 split
 ·assumption
 ·split <;> omega
set_option maxHeartbeats 1000000 in
theorem within_any (n lo hi : Int) (h0 : -1000000000000 ≤ lo) (h1 : lo ≤ hi) (h2 : hi ≤ 1000000000000) (w : World) :
  Calls Tryz.prog 6 #[.int .i64 n, .int .i64 lo, .int .i64 hi] w fun e w' => e = .returned (.int .i64 (withinZ n lo hi)) ∧ w = w' := by
 have hm : (n.tmod (hi - lo + 1)).natAbs < (hi - lo + 1).natAbs := by
  rw [Int.natAbs_tmod]
  exact Nat.mod_lt _ (by omega)
 have e1 : wrap64 (hi - lo) = hi - lo := by unfold wrap64; omega
 have e2 : wrap64 (hi - lo + 1) = hi - lo + 1 := by unfold wrap64; omega
 have e3 : wrap64 (n.tmod (hi - lo + 1)) = n.tmod (hi - lo + 1) := by unfold wrap64; omega
 have e4 : ((hi - lo + 1 : Int) == 0) = false := by simp; omega
 go_enter Tryz.func6, Tryz.ntmps6
 unfold withinZ
 by_cases c1 : lo ≤ n
 ·by_cases c2 : n ≤ hi
  ·rw [if_pos ⟨c1, c2⟩]
   go_wp2
   go_ret
   exact ⟨rfl, rfl⟩
  ·rw [if_neg (fun h => c2 h.2)]
   go_wp2
   all_goals go_ret
   all_goals exact ⟨rfl, rfl⟩
 ·rw [if_neg (fun h => c1 h.1)]
  go_wp2
  all_goals go_ret
  all_goals exact ⟨rfl, rfl⟩
def OwnerS (S : Nat → Prop) (w : World) (b : Nat) (seed : List UInt8) : Prop :=
 ∃ v vl us, Blk w b 93 [v, vl] ∧ S b ∧ Bys w v seed ∧ (0 < seed.length → ∀ g, v.ownBlock = some g → S g) ∧ Sho w vl 5 1 us ∧ (∀ g, vl.ownBlock = some g → S g) ∧ ∀ h, h ≤ 4 → ∃ u, us[h]? = some u ∧ RwsF S w u (levelS seed h)
theorem OwnerS.chg {S T : Nat → Prop} {w w1 : World} {b : Nat} {seed : List UInt8} (h : OwnerS S w b seed) (hc : Chg w w1 T) (hS : ∀ g, S g → ¬ T g) : OwnerS S w1 b seed := by
 obtain ⟨v, vl, us, h1, h2, h3, h4, h5, h6, h7⟩ := h
 exact ⟨v, vl, us, h1.chg hc (hS b h2), h2, Sho.chgF h3 h4 hc hS, h4, h5.chg hc (fun g hg => hS g (h6 g hg)), h6, fun k hk => by obtain ⟨u, e, hu⟩ := h7 k hk; exact ⟨u, e, hu.chg hc hS⟩⟩
theorem OwnerS.mono {S T : Nat → Prop} {w : World} {b : Nat} {seed : List UInt8} (h : OwnerS S w b seed) (hS : ∀ g, S g → T g) : OwnerS T w b seed := by
 obtain ⟨v, vl, us, h1, h2, h3, h4, h5, h6, h7⟩ := h
 exact ⟨v, vl, us, h1, hS b h2, h3, fun h0 g hg => hS g (h4 h0 g hg), h5, fun g hg => hS g (h6 g hg), fun k hk => by obtain ⟨u, e, hu⟩ := h7 k hk; exact ⟨u, e, hu.mono hS⟩⟩
set_option maxRecDepth 100000 in
set_option maxHeartbeats 4000000 in
theorem rnew_s (S : Nat → Prop) (v : Value) (seed : List UInt8) (hsm : seed.length ≤ 1000000000) (w : World) (hx : Bys w v seed) (hxS : 0 < seed.length → ∀ g, v.ownBlock = some g → S g) :
    Calls Tryz.prog 18 #[v] w fun e w' => e = .returned (.pointer (some ⟨w.heap.size, 0, none⟩)) ∧ OwnerS (fun g => S g ∨ (w.heap.size ≤ g ∧ g < w'.heap.size)) w' w.heap.size seed ∧ Below w.heap.size w w' := by
  obtain ⟨i0, hi0, hz0, hz1, hz2⟩ := info_parts info_bytes
  obtain ⟨j0, hj0, hjz0, hjz1, hjz2⟩ := info_parts info_rows
  obtain ⟨A, c, rfl⟩ := hx.form
  have HX := Lib.hid hx
  have HXS := Lib.hid hxS
  clear hx hxS
  go_enter Tryz.func18, Tryz.ntmps18
  go_wp2
  go_loopw [4, 5] (fun v4 v5 wr => ∃ i : Nat, v5 = .int .i64 i ∧ i ≤ 16 ∧ Hid (Below w.heap.size w wr ∧ Blk wr w.heap.size 93 [.slice A seed.length c, .slice none 0 0] ∧ OwnR wr (w.heap.size + 1) v4 (pubs seed i))) (fun _ v _ => 16 - (intOf v).toNat)
  case atStart => exact ⟨0, rfl, by decide, Lib.hid ⟨(Below.refl _ _).alloc (Nat.le_refl _) _, Blk.new w 93 [.slice A seed.length c, .slice none 0 0], OwnR.nil _ _⟩⟩
  case round =>
    obtain ⟨i, rfl, hi, HI⟩ := hrel
    have hszB : w.heap.size + 1 ≤ wr.heap.size := HI.out.2.1.lt
    by_cases hlt : i < 16
    · have HP := Lib.hid (fun (wz : World) (hz : Bys wz (.slice A seed.length c) seed) => rpublic_any (.slice A seed.length c) seed i (by omega) hsm wz hz)
      have HACC := Lib.hid (pubs_succ seed i)
      have hpl : (pubs seed i).length ≤ 100 := by rw [pubs_length]; omega
      generalize publicS seed (i : Int) = PB at *
      generalize pubs seed i = L at *
      obtain ⟨A4, c4, rfl⟩ := HI.out.2.2.rws.form
      go_wp2_with fail
      refine (HP.out wr (HX.out.below HI.out.1)).mono ?_
      rintro e w2 ⟨v2, rfl, h1, h2⟩
      obtain ⟨A2, c2, rfl⟩ := h1.form
      obtain ⟨us, hu1, hu2⟩ := HI.out.2.2.keep h2
      have H2 := Lib.hid (And.intro h1 (And.intro h2 (And.intro hu1 hu2)))
      have hsz2 := h2.size
      clear h1 h2 hu1 hu2
      go_wp2_with (at_builtin; (refine wpList_append_lies _ rfl (.tmp 15) (.tmp 19) 27 rfl (w.heap.size + 1) 26 i0 (.slice none 0 0) 1 24 Tryz.underlying27 hi0 hz0 hz1 hz2 rfl (by decide) _ L.length us rfl (World.ownsRow.alloc H2.out.2.2.1 _) ⟨w2.heap.size, 0, none⟩ 1 1 [.slice A2 PB.length c2] rfl rfl (World.news_of_block (blk_new _ _)) (by simp [Value.oneCell']) (by decide) (by unfold maxLen; omega) (by omega) (by simp; omega) (w2.heap.size + 1) (by simp) ?_); intro g3 c3 W3 hown3 hgrow3 hlie3 hlt3)
      have HR3 := Lib.hid (retr_push HI.out.2.2 hszB H2.out.2.1 H2.out.1 H2.out.2.2.2 (by have := H2.out.2.2.1.1; omega) hown3 hgrow3 hlie3)
      go_roundw
      case rel => exact ⟨i + 1, by go_num, by omega, Lib.hid ⟨HI.out.1.trans (HR3.out.2.mono (by omega)), HI.out.2.1.chg (chg_belowB HR3.out.2) (by omega), by rw [HACC.out]; exact HR3.out.1⟩⟩
      case measure => simp [intOf]; omega
    · obtain rfl : i = 16 := by omega
      rw [show ((16 : Nat) : Int) = 16 from rfl]
      have hL0 := (levelS_length seed).1
      have hfoot := HI.out.2.2.foot
      obtain ⟨A4, c4, rfl⟩ := HI.out.2.2.rws.form
      have HF := Lib.hid (And.intro HI.out.1 (And.intro HI.out.2.1 (show RwsF (fun g => w.heap.size + 1 ≤ g ∧ g < wr.heap.size) wr _ (levelS seed 0) from hfoot)))
      have HPL := Lib.hid (pubs_length seed 16)
      have q0 := HI.out.2.1.cell 0 _ rfl
      have q1 := HI.out.2.1.cell 1 _ rfl
      have hpe : pubs seed 16 = levelS seed 0 := rfl
      rw [hpe]
      clear hfoot HI hpe
      have HL0 := Lib.hid hL0
      clear hL0
      go_wp2_with (at_builtin; (refine wpList_append_lies _ rfl (.tmp 25) (.tmp 27) 91 rfl (w.heap.size + 1) 27 j0 (.slice none 0 0) 1 24 Tryz.underlying91 hj0 hjz0 hjz1 hjz2 rfl (by decide) _ 0 [] rfl (World.ownsRow_nil _ _ _ _) ⟨wr.heap.size, 0, none⟩ 1 1 [.slice A4 (levelS seed 0).length c4] rfl rfl (World.news_of_block (blk_new _ _)) (by simp [Value.oneCell']) (by decide) (by decide) (by decide) (by simp; omega) (wr.heap.size + 1) (by simp) ?_); intro g3 c3 W3 hown3 hgrow3 hlie3 hlt3; have HK3 := Lib.hid (Blk.grown (Blk.alloc HF.out.2.1 _) hgrow3 (by intro e; cases e)); have r1 := HK3.out.cell 1 _ rfl; have f1 := HK3.out.free 1)
      have hg3 : w.heap.size + 1 ≤ g3 := by rcases hlie3 with h | h; · cases h
                                            · omega
      have hc3 : Chg wr W3 (fun _ => False) := ((Chg.refl wr _).alloc _).trans (Chg.of_grown hgrow3) (fun i _ h => by cases h)
      have hOL : OwnL W3 (w.heap.size + 1) (.slice (some ⟨g3, 0, none⟩) 1 c3) [levelS seed 0] := by
        have := OwnL.push (w := wr) (base := w.heap.size + 1) (v := .slice none 0 0) (Ls := []) (us := []) (fun i h => absurd h (Nat.not_lt_zero _)) rfl (HF.out.2.2.mono (fun g hg => ⟨hg.1, hg.2, by intro e; cases e⟩)) hown3 hgrow3 hlie3
        simpa using this
      have hset : Chg W3 (W3.setCell ⟨w.heap.size, 1, none⟩ (.slice (some ⟨g3, 0, none⟩) 1 c3)) (fun k => k = w.heap.size) := (Chg.refl W3 _).setCell _ _ (fun _ => rfl)
      have HS := Lib.hid (show Below w.heap.size w (W3.setCell ⟨w.heap.size, 1, none⟩ (.slice (some ⟨g3, 0, none⟩) 1 c3)) ∧ (∃ vl, Blk (W3.setCell ⟨w.heap.size, 1, none⟩ (.slice (some ⟨g3, 0, none⟩) 1 c3)) w.heap.size 93 [.slice A seed.length c, vl] ∧ OwnL (W3.setCell ⟨w.heap.size, 1, none⟩ (.slice (some ⟨g3, 0, none⟩) 1 c3)) (w.heap.size + 1) vl ((List.range (0 + 1)).map (levelS seed))) ∧ RwsF (fun g => w.heap.size + 1 ≤ g ∧ g < (W3.setCell ⟨w.heap.size, 1, none⟩ (.slice (some ⟨g3, 0, none⟩) 1 c3)).heap.size) (W3.setCell ⟨w.heap.size, 1, none⟩ (.slice (some ⟨g3, 0, none⟩) 1 c3)) (.slice A4 (levelS seed 0).length c4) (levelS seed 0) from
        ⟨(HF.out.1.trans (hc3.below (by have := HF.out.1.size; omega) (fun k h => h.elim))).trans (hset.below (by have := HF.out.1.size; have := hc3.size; omega) (fun k hk => by omega)), ⟨_, HK3.out.set 1 _ (by simp), hOL.chg hset (fun g h1 h2 e => by omega)⟩, ((HF.out.2.2.chg hc3 (fun g hg h => h)).chg hset (fun g hg e => by omega)).mono (fun g hg => ⟨hg.1, by have := hc3.size; have := hset.size; omega⟩)⟩)
      clear hset hOL hc3 HK3 hown3 hgrow3 hlie3 hlt3 r1 f1 q0 q1 HF hg3
      generalize W3.setCell ⟨w.heap.size, 1, none⟩ (.slice (some ⟨g3, 0, none⟩) 1 c3) = W4 at *
      go_loopw [4] (fun v4 wr => ∃ h : Nat, h ≤ 4 ∧ Hid (Below w.heap.size w wr ∧ (∃ vl, Blk wr w.heap.size 93 [.slice A seed.length c, vl] ∧ OwnL wr (w.heap.size + 1) vl ((List.range (h + 1)).map (levelS seed))) ∧ RwsF (fun g => w.heap.size + 1 ≤ g ∧ g < wr.heap.size) wr v4 (levelS seed h))) (fun v _ => lenV v)
      case atStart => exact ⟨0, by decide, HS⟩
      case round =>
        clear HS hi hlt HPL HL0
        obtain ⟨h, hh, HI⟩ := hrel
        obtain ⟨A4, c4, rfl⟩ := HI.out.2.2.rws.form
        by_cases hlt : h < 4
        · obtain ⟨K, hK, hK1, hK8⟩ := levelS_two seed h hlt
          have HLV : Hid (levelS seed (h + 1) = abN (levelS seed h) K) := Lib.hid (by show abN (levelS seed h) ((levelS seed h).length / 2) = _; rw [hK]; congr 1; omega)
          have HL32 := Lib.hid (levelS_32 seed h)
          have HKK := Lib.hid hK
          have hLl : (levelS seed h).length ≤ 16 ∧ 2 ≤ (levelS seed h).length := by omega
          obtain ⟨hLl1, hLl2⟩ := hLl
          clear hK
          generalize hLe : levelS seed h = L at *
          have HLE := Lib.hid hLe
          clear hLe
          obtain ⟨wo, rfl⟩ : ∃ wo : World, wo = wr := ⟨_, rfl⟩
          have hdl : decide ((1 : Int) < (L.length : Int)) = true := by simp; omega
          go_wp2
          go_loopw [6, 7] (fun v6 v7 wr => ∃ (n : Nat), v7 = .int .i64 (2 * (n : Int)) ∧ n ≤ K ∧ Hid (Below wo.heap.size wo wr ∧ OwnR wr wo.heap.size v6 (abN L n))) (fun _ v _ => 40 - (intOf v).toNat)
          case atStart => exact ⟨0, rfl, Nat.zero_le _, Lib.hid ⟨Below.refl _ _, OwnR.nil _ _⟩⟩
          case round =>
            obtain ⟨n, rfl, hn, HJ⟩ := hrel
            by_cases hltn : n < K
            · have h2n : 2 * n + 1 < L.length := by have := HKK.out; omega
              obtain ⟨gl, ol, u1, rfl, hgl, -, -, hc1, hb1⟩ := HI.out.2.2.rws.at' (2 * n) (by omega)
              obtain ⟨gl', ol', u2, eA, -, -, -, hc2, hb2⟩ := HI.out.2.2.rws.at' (2 * n + 1) h2n
              injection eA with eA
              injection eA with eA1 eA2
              subst eA1 eA2
              obtain ⟨A1, c1, rfl⟩ := hb1.form
              obtain ⟨A2, c2, rfl⟩ := hb2.form
              have p1 := (HJ.out.1.cell (p := ⟨gl, ol + 2 * n, none⟩) hgl).trans hc1
              have p2 := (HJ.out.1.cell (p := ⟨gl, ol + (2 * n + 1), none⟩) hgl).trans hc2
              have hP := HL32.out (2 * n) (by omega)
              have hQ := HL32.out (2 * n + 1) h2n
              have HACC : Hid (abN L (n + 1) = abN L n ++ [tagH 14 [L[2 * n], L[2 * n + 1]]]) := Lib.hid (by
                show abN L n ++ [tagH 14 [L.getD (2 * n) [], L.getD (2 * n + 1) []]] = _
                rw [List.getD_eq_getElem?_getD, List.getD_eq_getElem?_getD, List.getElem?_eq_getElem h2n, List.getElem?_eq_getElem (show 2 * n < L.length by omega)]; rfl)
              have HBB := Lib.hid (And.intro (hb1.below HJ.out.1) (hb2.below HJ.out.1))
              clear hc1 hc2 hb1 hb2
              generalize L[2 * n] = P at *
              generalize L[2 * n + 1] = Q at *
              have HPQ := Lib.hid (And.intro hP hQ)
              clear hP hQ
              have hal : (abN L n).length ≤ 100 := by rw [abN_length]; omega
              obtain ⟨A6, c6, rfl⟩ := HJ.out.2.rws.form
              generalize abN L n = R at *
              generalize hT : tagH 14 [P, Q] = TG at *
              have HT := Lib.hid hT
              clear hT
              have hsz := HJ.out.1.size
              have hglw : gl < wr.heap.size := Nat.lt_of_lt_of_le hgl hsz
              have y1 : (2 : Int) * (n : Int) + 1 < (L.length : Int) := by omega
              have y0 : (2 : Int) * (n : Int) < (L.length : Int) := by omega
              have y2 : (0 : Int) ≤ 2 * (n : Int) := by omega
              have y3 : (0 : Int) ≤ 2 * (n : Int) + 1 := by omega
              have ew : IntKind.i64.wrap (2 * (n : Int) + 1) = 2 * (n : Int) + 1 := IntWalk.i64_in _ (by omega)
              have et : (2 * (n : Int) + 1).toNat = 2 * n + 1 := by omega
              have et0 : (2 * (n : Int)).toNat = 2 * n := by omega
              go_wp2
              go_region_held3 (fun w' => w'.cell? ⟨gl, ol + 2 * n, none⟩ = some (.slice A1 P.length c1) ∧ w'.cell? ⟨gl, ol + (2 * n + 1), none⟩ = some (.slice A2 Q.length c2))
                (first
                  | go_keep
                  | exact ⟨s1, s2⟩
                  | exact ⟨t1, t2⟩)
                (first
                  | (go_simp; go_at_call 44; refine (rtag_any 14 14 rfl _ [P, Q] (by have := HPQ.out; simp; omega) (by simp) _ (new2 (w := wr.drew) 26 (b := wr.heap.size) rfl HBB.out.1 HBB.out.2)).mono ?_; rintro e w5 ⟨v5, rfl, h5, h6⟩; rw [HT.out] at h5; obtain ⟨A5, c5, rfl⟩ := h5.form; have hbw : Below wr.heap.size wr w5 := ((Below.refl wr.heap.size wr).drew.alloc (Nat.le_refl _) (.cells #[.slice A1 P.length c1, .slice A2 Q.length c2] 26)).trans (h6.mono (by simp)); obtain ⟨us, hu1, hu2⟩ := HJ.out.2.keep hbw; have H5 := Lib.hid (And.intro (own_mono' h5 (show wr.heap.size ≤ _ by simp)) (And.intro hbw (And.intro hu1 hu2))); have hsz5 := hbw.size; have s1 := (hbw.cell (p := ⟨gl, ol + 2 * n, none⟩) hglw).trans p1; have s2 := (hbw.cell (p := ⟨gl, ol + (2 * n + 1), none⟩) hglw).trans p2; clear h5 h6 hbw hu1 hu2)
                  | (refine step_append_lies _ (by rfl) (.tmp 40) (.tmp 52) 27 (by rfl) wo.heap.size 26 i0 (.slice none 0 0) 1 24 Tryz.underlying27 hi0 hz0 hz1 hz2 rfl (by omega) _ R.length us (by rfl) (World.ownsRow.alloc H5.out.2.2.1 _) ⟨w5.heap.size, 0, none⟩ 1 1 [.slice A5 TG.length c5] (by rfl) (by rfl) (World.news_of_block (blk_new _ _)) (by simp [Value.oneCell']) (by omega) (by unfold maxLen; omega) (by omega) (by simp; omega) (w5.heap.size + 1) (by simp) ?_; intro g7 c7 W7 hown7 hgrow7 hlie7 hlt7; have HR7 := Lib.hid (retr_push HJ.out.2 hsz H5.out.2.1 H5.out.1 H5.out.2.2.2 (by have := H5.out.2.2.1.1; omega) hown7 hgrow7 hlie7); have t1 : W7.cell? ⟨gl, ol + 2 * n, none⟩ = some (.slice A1 P.length c1) := (HR7.out.2.cell (p := ⟨gl, ol + 2 * n, none⟩) hgl).trans p1; have t2 : W7.cell? ⟨gl, ol + (2 * n + 1), none⟩ = some (.slice A2 Q.length c2) := (HR7.out.2.cell (p := ⟨gl, ol + (2 * n + 1), none⟩) hgl).trans p2; clear hown7 hgrow7 hlie7 hlt7))
              go_wp2
              go_roundw
              case rel => exact ⟨n + 1, by go_num, by omega, Lib.hid ⟨HJ.out.1.trans HR7.out.2, by rw [HACC.out]; exact HR7.out.1⟩⟩
              case measure => simp [intOf]; omega
            · obtain rfl : n = K := by omega
              have y9 : (L.length : Int) ≤ 2 * (n : Int) := by have := HKK.out; omega
              obtain ⟨vl, hbo, hol⟩ := HI.out.2.1
              have hc7 : Chg wo wr (fun _ => False) := Chg.of_below HJ.out.1
              obtain ⟨A6, c6, rfl⟩ := HJ.out.2.rws.form
              have HVB : Hid (∀ k, vl.ownBlock = some k → k < wo.heap.size) := Lib.hid (fun k e => by obtain ⟨us0, k1, _⟩ := hol; exact (World.ownsRow.lt k1 k e).2)
              obtain ⟨us, hu1, hu2⟩ := hol.chg hc7 (fun _ _ _ h => h)
              have hb7 := hbo.chg hc7 (fun h => h)
              have q0 := hb7.cell 0 _ rfl
              have q1 := hb7.cell 1 _ rfl
              have hsw := HJ.out.1.size
              have hbw := HI.out.1.size
              have hlr : ((List.range (h + 1)).map (levelS seed)).length ≤ 5 := by simp; omega
              have HBO := Lib.hid (And.intro hb7 (And.intro hu1 hu2))
              have HUP := Lib.hid (HJ.out.2.foot)
              have HBW := Lib.hid (HI.out.1.trans (HJ.out.1.mono hbw))
              have hwb : w.heap.size + 1 ≤ wo.heap.size := hbo.lt
              clear hb7 hu1 hu2 hol hbo hc7
              rw [← HLV.out] at HUP
              have hlv : (levelS seed (h + 1)).length = (abN L n).length := by rw [HLV.out]
              rw [← hlv]
              have HLVV := Lib.hid hlv
              clear hlv
              generalize hLS : (List.range (h + 1)).map (levelS seed) = LS at *
              have HLS := Lib.hid hLS
              clear hLS
              have hvf : vl.ownBlock = none ∨ vl.ownBlock ≠ none := by by_cases e : vl.ownBlock = none <;> simp [e]
              obtain ⟨A1, c1, rfl⟩ := (Sho.own HBO.out.2.1).form
              go_wp2_with (at_builtin; (refine wpList_append_lies _ rfl (.tmp 59) (.tmp 61) 91 rfl (w.heap.size + 1) 27 j0 (.slice none 0 0) 1 24 Tryz.underlying91 hj0 hjz0 hjz1 hjz2 rfl (by decide) _ LS.length us rfl (World.ownsRow.alloc HBO.out.2.1 _) ⟨wr.heap.size, 0, none⟩ 1 1 [.slice A6 (levelS seed (h + 1)).length c6] rfl rfl (World.news_of_block (blk_new _ _)) (by simp [Value.oneCell']) (by decide) (by unfold maxLen; omega) (by omega) (by simp; omega) (wr.heap.size + 1) (by simp) ?_); intro g8 c8 W8 hown8 hgrow8 hlie8 hlt8; have HK8 := Lib.hid (Blk.grown (Blk.alloc HBO.out.1 _) hgrow8 (fun e => by have := (World.ownsRow.lt HBO.out.2.1 w.heap.size e.symm).1; omega)); have r1 := HK8.out.cell 1 _ rfl; have f1 := HK8.out.free 1)
              have hg8 : w.heap.size + 1 ≤ g8 := by
                rcases hlie8 with e | e
                · exact (World.ownsRow.lt HBO.out.2.1 g8 e).1
                · omega
              have hc8 : Chg wr W8 (fun k => (Value.slice A1 LS.length c1).ownBlock = some k) := ((Chg.refl wr _).alloc _).trans (Chg.of_grown hgrow8) (fun i _ h => h.symm)
              have hOL8 : OwnL W8 (w.heap.size + 1) (.slice (some ⟨g8, 0, none⟩) (LS.length + 1) c8) (LS ++ [levelS seed (h + 1)]) :=
                OwnL.push (w := wr) HBO.out.2.2 (by have := HBO.out.2.1.1; omega) (HUP.out.mono (fun g hg => ⟨by omega, hg.2, fun e => by have := HVB.out g e; omega⟩)) hown8 hgrow8 hlie8
              have hset : Chg W8 (W8.setCell ⟨w.heap.size, 1, none⟩ (.slice (some ⟨g8, 0, none⟩) (LS.length + 1) c8)) (fun k => k = w.heap.size) := (Chg.refl W8 _).setCell _ _ (fun _ => rfl)
              have hF8 : RwsF (fun g => w.heap.size + 1 ≤ g ∧ g < (W8.setCell ⟨w.heap.size, 1, none⟩ (.slice (some ⟨g8, 0, none⟩) (LS.length + 1) c8)).heap.size) (W8.setCell ⟨w.heap.size, 1, none⟩ (.slice (some ⟨g8, 0, none⟩) (LS.length + 1) c8)) (.slice A6 (levelS seed (h + 1)).length c6) (levelS seed (h + 1)) :=
                ((HUP.out.chg hc8 (fun g hg e => by have := HVB.out g e; omega)).chg hset (fun g hg e => by omega)).mono (fun g hg => ⟨by omega, by have := hc8.size; have := hset.size; omega⟩)
              go_roundw
              case rel => exact ⟨h + 1, by omega, Lib.hid ⟨(HBW.out.trans (hc8.below (by omega) (fun k hk => by have := (World.ownsRow.lt HBO.out.2.1 k hk).1; omega))).trans (hset.below (by have := hc8.size; omega) (fun k hk => by omega)), ⟨_, HK8.out.set 1 _ (by simp), by
                have e : (List.range (h + 1 + 1)).map (levelS seed) = LS ++ [levelS seed (h + 1)] := by rw [List.range_succ, List.map_append, HLS.out]; rfl
                rw [e]
                exact hOL8.chg hset (fun g k1 k2 k3 => by omega)⟩, hF8⟩⟩
              case measure => simp only [lenV]; have h1 := HLVV.out; rw [abN_length] at h1; have h2 := HKK.out; omega
        · obtain rfl : h = 4 := by omega
          have hl1 := (levelS_length seed).2.2.2.2
          have hd1 : ¬ (1 : Int) < ((levelS seed 4).length : Int) := by omega
          have HL1 := Lib.hid hl1
          clear hl1
          have HOW : Hid (OwnerS (fun g => S g ∨ (w.heap.size ≤ g ∧ g < wr.heap.size)) wr w.heap.size seed) := Lib.hid (by
            obtain ⟨vl, k1, us, k2, k3⟩ := HI.out.2.1
            refine ⟨_, vl, us, k1, .inr ⟨Nat.le_refl _, k1.lt⟩, HX.out.below HI.out.1, fun h0 g hg => .inl (HXS.out h0 g hg), Sho.own k2, fun g hg => .inr ⟨by have := (World.ownsRow.lt k2 g hg).1; omega, (World.ownsRow.lt k2 g hg).2⟩, fun q hq => ?_⟩
            obtain ⟨u, e, hu⟩ := k3 q (by simp; omega)
            exact ⟨u, e, by have := hu.mono (T := fun g => S g ∨ (w.heap.size ≤ g ∧ g < wr.heap.size)) (fun g hg => .inr ⟨by have := hg.1; omega, hg.2.1⟩); simpa using this⟩)
          go_wp2
          go_ret
          exact ⟨rfl, HOW.out, HI.out.1⟩
def seedS (n : Int) : List UInt8 := tagH 99 [[ub (n % 5)]]
def hashS (n : Int) : List UInt8 := tagH 98 [[ub n]]
theorem seedS_length (n : Int) : (seedS n).length = 32 := tagH_length _ _
theorem hashS_length (n : Int) : (hashS n).length = 32 := tagH_length _ _
theorem withinZ_in (n lo hi : Int) (h0 : lo ≤ n) (h1 : n ≤ hi) : withinZ n lo hi = n := by unfold withinZ; rw [if_pos ⟨h0, h1⟩]
theorem one_text (w : World) (b : UInt8) (y : Int) (hy : y = ((b.toNat : Nat) : Int)) : Rws ((w.alloc (.cells #[.int .u8 y] 5)).alloc (.cells #[.slice (some ⟨w.heap.size, 0, none⟩) 1 1] 26)) (.slice (some ⟨w.heap.size + 1, 0, none⟩) 1 1) [[b]] := by
 subst hy
 have h : Bys (w.alloc (.cells #[.int .u8 ((b.toNat : Nat) : Int)] 5)) (.slice (some ⟨w.heap.size, 0, none⟩) 1 1) [b] := Sho.new w 5 (bys [b]) 1 1 1 rfl (Nat.le_refl _) (by decide)
 exact new1 26 (b := w.heap.size + 1) (by simp) h
set_option maxRecDepth 100000 in
theorem seed_any (n : Int) (h0 : 0 ≤ n) (h1 : n ≤ 1000) (w : World) : Calls Tryz.prog 19 #[.int .i64 n] w (RetB w (seedS n)) := by
 have HW := Lib.hid (within_any n 0 1000 (by decide) (by decide) (by decide) w)
 rw [withinZ_in n 0 1000 h0 h1] at HW
 have HB5 : Hid (n % 5 = (((ub (n % 5)).toNat : Nat) : Int)) := Lib.hid (by rw [ub_val]; omega)
 have HS : Hid (seedS n = tagH 99 [[ub (n % 5)]]) := Lib.hid rfl
 generalize seedS n = S at *
 generalize ub (n % 5) = b at *
 go_enter Tryz.func19, Tryz.ntmps19
 go_wp2_with fail
 refine HW.out.mono ?_
 rintro e w' ⟨rfl, rfl⟩
 have hb := ((Below.refl w.heap.size w).alloc (Nat.le_refl _) (.cells #[.int .u8 (n % 5)] 5)).alloc (by simp) (.cells #[.slice (some ⟨w.heap.size, 0, none⟩) 1 1] 26)
 have HT := Lib.hid (And.intro (rtag_any 99 99 rfl _ [[b]] (by simp) (by simp) _ (one_text w b (n % 5) HB5.out)) hb)
 clear hb
 go_wp2_with fail
 refine HT.out.1.mono ?_
 rintro e w2 ⟨v2, rfl, h1, h2⟩
 have H2 := Lib.hid (And.intro h1 h2)
 clear h1 h2
 go_wp2
 go_ret
 exact ⟨_, rfl, by rw [HS.out]; exact own_mono' H2.out.1 (by simp; omega), HT.out.2.trans (H2.out.2.mono (by simp; omega))⟩
set_option maxRecDepth 100000 in
theorem hash_any (n : Int) (h0 : 0 ≤ n) (h1 : n ≤ 100000) (w : World) : Calls Tryz.prog 24 #[.int .i64 n] w (RetB w (hashS n)) := by
 have HW := Lib.hid (within_any n 0 100000 (by decide) (by decide) (by decide) w)
 rw [withinZ_in n 0 100000 h0 h1] at HW
 have e1 : n % 256 = (((ub n).toNat : Nat) : Int) := (ub_val _).symm
 have HS : Hid (hashS n = tagH 98 [[ub n]]) := Lib.hid rfl
 generalize hashS n = S at *
 generalize ub n = b at *
 go_enter Tryz.func24, Tryz.ntmps24
 go_wp2_with fail
 refine HW.out.mono ?_
 rintro e w' ⟨rfl, rfl⟩
 have hb := ((Below.refl w.heap.size w).alloc (Nat.le_refl _) (.cells #[.int .u8 ((b.toNat : Nat) : Int)] 5)).alloc (by simp) (.cells #[.slice (some ⟨w.heap.size, 0, none⟩) 1 1] 26)
 have HT := Lib.hid (And.intro (rtag_any 98 98 rfl _ [[b]] (by simp) (by simp) _ (one_text w b ((b.toNat : Nat) : Int) rfl)) hb)
 clear hb
 go_wp2_with fail
 refine HT.out.1.mono ?_
 rintro e w2 ⟨v2, rfl, h1, h2⟩
 have H2 := Lib.hid (And.intro h1 h2)
 clear h1 h2
 go_wp2
 go_ret
 exact ⟨_, rfl, by rw [HS.out]; exact own_mono' H2.out.1 (by simp; omega), HT.out.2.trans (H2.out.2.mono (by simp; omega))⟩
def OwnersS (S : Nat → Prop) (w : World) (v : Value) (n : Nat) : Prop := ∃ us, Sho w v n 1 us ∧ (0 < n → ∀ g, v.ownBlock = some g → S g) ∧ ∀ i, i < n → ∃ b, us[i]? = some (.pointer (some ⟨b, 0, none⟩)) ∧ OwnerS S w b (seedS (i : Int))
theorem OwnersS.chg {S T : Nat → Prop} {w w1 : World} {v : Value} {n : Nat} (h : OwnersS S w v n) (hc : Chg w w1 T) (hS : ∀ g, S g → ¬ T g) : OwnersS S w1 v n := by
 obtain ⟨us, h1, h2, h3⟩ := h
 exact ⟨us, h1.chgF h2 hc hS, h2, fun i hi => by obtain ⟨b, e, ho⟩ := h3 i hi; exact ⟨b, e, ho.chg hc hS⟩⟩
theorem OwnersS.below {S : Nat → Prop} {w w1 : World} {v : Value} {n : Nat} (h : OwnersS S w v n) (hb : Below w.heap.size w w1) : OwnersS S w1 v n := h.chg (Chg.of_below (S := fun _ => False) hb) (fun _ _ h => h)
theorem OwnersS.form {S : Nat → Prop} {w : World} {v : Value} {n : Nat} (h : OwnersS S w v n) : ∃ A c, v = .slice A n c := by
 obtain ⟨us, h1, h2⟩ := h
 exact h1.form
theorem OwnersS.at' {S : Nat → Prop} {w : World} {A : Option Addr} {m c n : Nat} (h : OwnersS S w (.slice A m c) n) (i : Nat) (hi : i < n) : ∃ g o b, A = some ⟨g, o, none⟩ ∧ g < w.heap.size ∧ m = n ∧ n ≤ c ∧ w.cell? ⟨g, o + i, none⟩ = some (.pointer (some ⟨b, 0, none⟩)) ∧ OwnerS S w b (seedS (i : Int)) := by
 obtain ⟨us, h1, -, h2⟩ := h
 obtain ⟨b, e, ho⟩ := h2 i hi
 obtain ⟨g, o, e1, e2, h3, h4, _, h5⟩ := h1.place (by omega)
 exact ⟨g, o, b, e1, h3, e2, h4, h5 i _ e, ho⟩
theorem info_owner : (Tryz.prog.info? 42).map (fun i => (i.zero, i.size, i.bytes)) = some (some (.pointer none), 1, 8) := by kernel_rfl
def OwnI (w wr : World) (v : Value) (i : Nat) : Prop := Below w.heap.size w wr ∧ ∃ us, wr.ownsRow w.heap.size 42 1 v i us ∧ ∀ j, j < i → ∃ b, us[j]? = some (.pointer (some ⟨b, 0, none⟩)) ∧ OwnerS (fun g => w.heap.size ≤ g ∧ g < wr.heap.size ∧ v.ownBlock ≠ some g) wr b (seedS (j : Int))
set_option maxRecDepth 100000 in
set_option maxHeartbeats 2000000 in
theorem owners_any (n : Nat) (h1 : n ≤ 10) (w : World) :
  Calls Tryz.prog 7 #[.int .i64 n] w fun e w' => ∃ v, e = .returned v ∧ OwnersS (fun g => w.heap.size ≤ g ∧ g < w'.heap.size) w' v (n + 1) ∧ Below w.heap.size w w' := by
 obtain ⟨i0, hi0, hz0, hz1, hz2⟩ := info_parts info_owner
 go_enter Tryz.func7, Tryz.ntmps7
 go_wp2
 go_loopw [3, 4] (fun v3 v4 wr => ∃ (i : Nat) (A : Option Addr) (c : Nat), v3 = .slice A i c ∧ v4 = .int .i64 i ∧ i ≤ n + 1 ∧ Hid (OwnI w wr (.slice A i c) i)) (fun _ v _ => n + 1 - (intOf v).toNat)
 case atStart => exact ⟨0, none, 0, rfl, rfl, Nat.zero_le _, Lib.hid ⟨Below.refl _ _, [], World.ownsRow_nil _ _ _ _, fun j hj => absurd hj (Nat.not_lt_zero _)⟩⟩
 case round =>
  obtain ⟨i, A, c, rfl, rfl, hi, HI⟩ := hrel
  by_cases hlt : i ≤ n
  ·have HS := Lib.hid (seed_any (i : Int) (by omega) (by omega) wr)
   have hle : (i : Int) ≤ (n : Int) := by omega
   go_wp2_with fail
   refine HS.out.mono ?_
   rintro e w1 ⟨v1, rfl, h2, h3⟩
   obtain ⟨A1, c1, rfl⟩ := h2.form
   have HN := Lib.hid (rnew_s (fun g => wr.heap.size ≤ g ∧ g < w1.heap.size) _ (seedS (i : Int)) (by rw [seedS_length]; decide) w1 h2.bys (fun _ g hg => World.ownsRow.lt h2 g hg))
   have H1 := Lib.hid h3
   clear h2 h3
   go_wp2_with fail
   refine HN.out.mono ?_
   rintro e w2 ⟨rfl, h4, h5⟩
   have hb2 := H1.out.trans (h5.mono H1.out.size)
   obtain ⟨k1, us, k2, k3⟩ := HI.out
   have k2' := ownsRow_chg k2 (Chg.of_below (S := fun _ => False) hb2) (fun _ _ h => h)
   have hsz := k1.size
   have hsz2 := hb2.size
   have hz1' := H1.out.size
   have hz12 := h5.size
   have H2 := Lib.hid (And.intro hb2 (And.intro h4 (And.intro k2' (And.intro k1 (And.intro k2 k3)))))
   clear k1 k2 k3 k2' h4 h5 hb2
   go_wp2_with (at_builtin; (refine wpList_append_lie rfl (.tmp 10) (.tmp 14) 24 rfl w.heap.size 42 i0 (.pointer none) 1 8 Tryz.underlying24 hi0 hz0 hz1 hz2 rfl (by decide) _ i us rfl (World.ownsRow.alloc H2.out.2.2.1 _) _ 1 [.pointer (some ⟨w1.heap.size, 0, none⟩)] rfl (news1 _ 42 _ rfl) (by unfold maxLen; omega) (by omega) (by simp; omega) ?_); intro v5 W5 hown5 hgrow5 hlie5; obtain ⟨A5, c5, rfl⟩ := (Sho.own hown5).form; have H5 : Hid (OwnI w W5 (.slice A5 (i + 1) c5) (i + 1)) := Lib.hid (by
     obtain ⟨q1, q2, q3, q4, q5, q6⟩ := H2.out
     have hc5 : Chg w2 W5 (fun g => (Value.slice A i c).ownBlock = some g) := ((Chg.refl w2 _).alloc _).trans (Chg.of_grown hgrow5) (fun i _ h => h.symm)
     have hsz5 := hc5.size
     have hne : ∀ g, g < w2.heap.size → (Value.slice A i c).ownBlock ≠ some g → (Value.slice A5 (i + 1) c5).ownBlock ≠ some g := fun g hg hn => by
      refine LieOf.ne (w := w2.alloc (.cells #[.pointer (some ⟨w1.heap.size, 0, none⟩)] 42)) hlie5 hn (by simp; omega)
     refine ⟨q4.trans (q1.mono hsz) |>.trans (hc5.below (by omega) (fun k hk => (World.ownsRow.lt q5 k hk).1)), us ++ [.pointer (some ⟨w1.heap.size, 0, none⟩)], hown5, fun j hj => ?_⟩
     by_cases hji : j < i
     ·obtain ⟨b, e, ho⟩ := q6 j hji
      refine ⟨b, by rw [List.getElem?_append_left (by have := q5.1; omega)]; exact e, ?_⟩
      exact ((ho.chg (Chg.of_below (S := fun _ => False) q1) (fun _ _ h => h)).chg hc5 (fun g hg e => hg.2.2 e)).mono (fun g hg => ⟨hg.1, by have h9 : g < wr.heap.size := hg.2.1; omega, hne g (by have h9 : g < wr.heap.size := hg.2.1; omega) hg.2.2⟩)
     ·obtain rfl : j = i := by omega
      refine ⟨w1.heap.size, by rw [List.getElem?_append_right (by have := q5.1; omega), show us.length = j by have := q5.1; omega]; simp, ?_⟩
      have hold : ∀ g, wr.heap.size ≤ g → (Value.slice A j c).ownBlock ≠ some g := fun g hg e => by have := (World.ownsRow.lt q5 g e).2; omega
      have hS : ∀ g, ((wr.heap.size ≤ g ∧ g < w1.heap.size) ∨ (w1.heap.size ≤ g ∧ g < w2.heap.size)) → wr.heap.size ≤ g ∧ g < w2.heap.size := fun g hg => by omega
      exact ((q2.mono hS).chg hc5 (fun g hg e => hold g hg.1 e)).mono (fun g hg => ⟨by have h9 : wr.heap.size ≤ g := hg.1; omega, by have h9 : g < w2.heap.size := hg.2; omega, hne g hg.2 (hold g hg.1)⟩)); clear hown5 hgrow5 hlie5)
   go_roundw
   case rel => exact ⟨i + 1, A5, c5, rfl, by go_num, by omega, H5⟩
   case measure => simp [intOf]; omega
  ·obtain rfl : i = n + 1 := by omega
   have hnl : ¬ ((n + 1 : Nat) : Int) ≤ (n : Int) := by omega
   go_wp2
   go_ret
   obtain ⟨k1, us, k2, k3⟩ := HI.out
   exact ⟨_, rfl, ⟨us, Sho.own k2, fun _ g hg => World.ownsRow.lt k2 g hg, fun j hj => by obtain ⟨b, e, ho⟩ := k3 j hj; exact ⟨b, e, ho.mono (fun g hg => ⟨hg.1, hg.2.1⟩)⟩⟩, k1⟩
def OwnT (S : Nat → Prop) (w : World) (lo base : Nat) (v : Value) (ls : List (List UInt8)) : Prop :=
 ∃ us, w.ownsRow base 26 1 v ls.length us ∧ ∀ i (h : i < ls.length), ∃ u, us[i]? = some u ∧ Bys w u ls[i] ∧ (0 < ls[i].length → ∀ g, u.ownBlock = some g → S g ∧ g < lo)
theorem OwnT.nil (S : Nat → Prop) (w : World) (lo base : Nat) : OwnT S w lo base (.slice none 0 0) [] := ⟨[], World.ownsRow_nil _ _ _ _, fun i h => absurd h (Nat.not_lt_zero _)⟩
theorem OwnT.rws {S : Nat → Prop} {w : World} {lo base : Nat} {v : Value} {ls : List (List UInt8)} (h : OwnT S w lo base v ls) : Rws w v ls := by
 obtain ⟨us, h1, h2⟩ := h
 exact ⟨us, Sho.own h1, fun i hi => by obtain ⟨u, e, hu, _⟩ := h2 i hi; exact ⟨u, e, hu⟩⟩
theorem OwnT.chg {S : Nat → Prop} {w w1 : World} {lo base : Nat} {T : Nat → Prop} {v : Value} {ls : List (List UInt8)} (h : OwnT S w lo base v ls) (hc : Chg w w1 T) (hT : ∀ g, T g → lo ≤ g ∧ g < base) : OwnT S w1 lo base v ls := by
 obtain ⟨us, h1, h2⟩ := h
 refine ⟨us, ownsRow_chg h1 hc (fun k hk e => by have := (World.ownsRow.lt h1 k hk).1; have := hT k e; omega), fun i hi => ?_⟩
 obtain ⟨u, e, hx, hn⟩ := h2 i hi
 exact ⟨u, e, Sho.chgF hx (S := fun g => S g ∧ g < lo) hn hc (fun g hg e => by have := hT g e; have := hg.2; omega), hn⟩
theorem OwnT.chg2 {S : Nat → Prop} {w w1 : World} {lo base b : Nat} {v : Value} {ls : List (List UInt8)} (h : OwnT S w lo base v ls) (hc : Chg w w1 (fun k => k = b)) (hb : lo ≤ b ∧ b < base) : OwnT S w1 lo base v ls := h.chg hc (fun g hg => by omega)
theorem OwnT.push {S : Nat → Prop} {w W : World} {lo base : Nat} {v v' u : Value} {ls : List (List UInt8)} {l : List UInt8} {us : List Value} {t : TypeId} {cs : Array Value} (hlo : lo ≤ base)
  (h0 : w.ownsRow base 26 1 v ls.length us) (h1 : ∀ i (h : i < ls.length), ∃ u, us[i]? = some u ∧ Bys w u ls[i] ∧ (0 < ls[i].length → ∀ g, u.ownBlock = some g → S g ∧ g < lo))
  (hu : Bys w u l) (hun : 0 < l.length → ∀ g, u.ownBlock = some g → S g ∧ g < lo)
  (ho : W.ownsRow base 26 1 v' (ls.length + 1) (us ++ [u])) (hg : (w.alloc (.cells cs t)).grownBy W v.ownBlock) : OwnT S W lo base v' (ls ++ [l]) := by
 have hc : Chg w W (fun k => v.ownBlock = some k) := ((Chg.refl w _).alloc _).trans (Chg.of_grown hg) (fun i _ h => h.symm)
 have keep : ∀ (x : Value) (m : List UInt8), Bys w x m → (0 < m.length → ∀ g, x.ownBlock = some g → S g ∧ g < lo) → Bys W x m := fun x m hx hn =>
  Sho.chgF hx (S := fun g => S g ∧ g < lo) hn hc (fun g hg e => by have := (World.ownsRow.lt h0 g e).1; have := hg.2; omega)
 have hl : us.length = ls.length := by have := h0.1; omega
 refine ⟨us ++ [u], by rw [List.length_append]; exact ho, fun i hi => ?_⟩
 by_cases hi' : i < ls.length
 ·obtain ⟨x, e, hx, hn⟩ := h1 i hi'
  refine ⟨x, by rw [List.getElem?_append_left (by omega)]; exact e, ?_, ?_⟩
  ·rw [List.getElem_append_left hi']; exact keep x _ hx hn
  ·rw [List.getElem_append_left hi']; exact hn
 ·have : i = ls.length := by simp at hi; omega
  subst this
  refine ⟨u, by rw [List.getElem?_append_right (by omega), hl]; simp, ?_, ?_⟩
  ·rw [List.getElem_append_right (Nat.le_refl _)]; simpa using keep u l hu hun
  ·intro h0
   exact hun (by rw [List.getElem_append_right (Nat.le_refl _)] at h0; simpa using h0)

theorem OwnT.foot {S : Nat → Prop} {w : World} {lo base : Nat} {v : Value} {ls : List (List UInt8)} (h : OwnT S w lo base v ls) : RwsF (fun g => S g ∨ (base ≤ g ∧ g < w.heap.size)) w v ls := by
 obtain ⟨us, h1, h2⟩ := h
 exact ⟨us, Sho.own h1, fun _ g hg => .inr (World.ownsRow.lt h1 g hg), fun i hi => by obtain ⟨u, e, hu, hn⟩ := h2 i hi; exact ⟨u, e, hu, fun h0 g hg => .inl (hn h0 g hg).1⟩⟩
theorem RwsF.at' {S : Nat → Prop} {w : World} {A : Option Addr} {n c : Nat} {ls : List (List UInt8)} (h : RwsF S w (.slice A n c) ls) (i : Nat) (hi : i < ls.length) : ∃ g o u, A = some ⟨g, o, none⟩ ∧ g < w.heap.size ∧ n = ls.length ∧ ls.length ≤ c ∧ w.cell? ⟨g, o + i, none⟩ = some u ∧ Bys w u ls[i] ∧ (0 < ls[i].length → ∀ g, u.ownBlock = some g → S g) := by
 obtain ⟨us, h1, -, h2⟩ := h
 obtain ⟨u, e, hu, hn⟩ := h2 i hi
 obtain ⟨g, o, e1, e2, h3, h4, _, h5⟩ := h1.place (by omega)
 exact ⟨g, o, u, e1, h3, e2, h4, h5 i u e, hu, hn⟩
set_option maxRecDepth 100000 in
set_option maxHeartbeats 4000000 in
theorem rosign_s (S : Nat → Prop) (b : Nat) (vm : Value) (seed msg : List UInt8) (ix : Int) (h0 : 0 ≤ ix) (h1 : ix < 16) (hsm : seed.length ≤ 1000000000) (hsm2 : msg.length ≤ 1000000000) (w : World) (ho : OwnerS S w b seed) (hm : Bys w vm msg) :
    Calls Tryz.prog 25 #[.pointer (some ⟨b, 0, none⟩), .int .i64 ix, vm] w fun e w' => ∃ v, e = .returned v ∧ SigF (fun g => S g ∨ (w.heap.size ≤ g ∧ g < w'.heap.size)) w' v (signS seed ix msg) ∧ Below w.heap.size w w' := by
  obtain ⟨i0, hi0, hz0, hz1, hz2⟩ := info_parts info_bytes
  obtain ⟨vs, vl, us, k1, -, k2, -, k3, -, k4⟩ := ho
  obtain ⟨As, cs, rfl⟩ := k2.form
  obtain ⟨Am, cm, rfl⟩ := hm.form
  obtain ⟨Al, cl, rfl⟩ := k3.form
  obtain ⟨gl, ol, rfl, -, hgl, hcl, -, hcells⟩ := k3.place (by decide)
  have HO := Lib.hid (And.intro k1 (And.intro k2 (And.intro hm (And.intro hcells k4))))
  have hbw := k1.lt
  have q0 := k1.cell 0 _ rfl
  clear k1 k2 k3 k4 hcells hm
  go_enter Tryz.func25, Tryz.ntmps25
  go_wp2_with fail
  refine calls_at (fun w1 => Below w.heap.size w w1 ∧ Blk w1 w.heap.size 38 [.int .i64 0, .slice none 0 0, .slice none 0 0]) ⟨(Below.refl w.heap.size w).alloc (Nat.le_refl _) _, Blk.new w 38 [.int .i64 0, .slice none 0 0, .slice none 0 0]⟩ ?_
  rintro w1 ⟨hb1, hk1⟩
  refine (rsign_any _ _ seed msg ix (by omega) hsm hsm2 w1 (HO.out.2.1.below hb1) (HO.out.2.2.1.below hb1)).mono ?_
  rintro e w2 ⟨v2, rfl, h2, h3⟩
  have hlt1 := hk1.lt
  have H2 := Lib.hid (And.intro (hb1.trans (h3.mono hb1.size)) (And.intro (hk1.below h3) (h2.foot.mono (fun g hg => (show w.heap.size < g ∧ g < w2.heap.size from ⟨by omega, hg.2⟩)))))
  obtain ⟨A2, c2, rfl⟩ := h2.rws.form
  clear hb1 hk1 h2 h3 q0
  have HPL := Lib.hid (partsS_length seed ix msg)
  have HSG : Hid (signS seed ix msg = ⟨ix, partsS seed ix msg, sigPath seed ix 4⟩) := Lib.hid rfl
  generalize partsS seed ix msg = PS at *
  have hsw := H2.out.2.1.lt
  go_wp2
  refine code_at (fun w3 => Below w.heap.size w w3 ∧ Blk w3 w.heap.size 38 [.int .i64 0, .slice none 0 0, .slice none 0 0] ∧ RwsF (fun g => w.heap.size < g ∧ g < w2.heap.size) w3 (.slice A2 PS.length c2) PS ∧ Blk w3 w2.heap.size 38 [.int .i64 ix, .slice A2 PS.length c2, .slice none 0 0]) ?_ ?_
  · have hal : Below w2.heap.size w2 (w2.alloc (.cells #[.int .i64 ix, .slice A2 PS.length c2, .slice none 0 0] 38)) := (Below.refl _ _).alloc (Nat.le_refl _) _
    exact ⟨H2.out.1.trans (hal.mono H2.out.1.size), H2.out.2.1.below hal, H2.out.2.2.chg (Chg.of_below (S := fun _ => False) hal) (fun g hg h => h), Blk.new w2 38 [.int .i64 ix, .slice A2 PS.length c2, .slice none 0 0]⟩
  intro w3 hw3
  have HW := Lib.hid hw3
  clear hw3 H2
  have HLB7 : Hid (w.heap.size ≤ w2.heap.size) := Lib.hid (by omega)
  generalize w2.heap.size = B7 at *
  go_loopw [8] (fun v8 wr => ∃ h : Nat, v8 = .int .i64 h ∧ h ≤ 4 ∧ Hid (Below w.heap.size w wr ∧ Blk wr w.heap.size 38 [.int .i64 0, .slice none 0 0, .slice none 0 0] ∧ RwsF (fun g => w.heap.size < g ∧ g < B7) wr (.slice A2 PS.length c2) PS ∧ ∃ pv, Blk wr B7 38 [.int .i64 ix, .slice A2 PS.length c2, pv] ∧ OwnT S wr w.heap.size (B7 + 1) pv (sigPath seed ix h))) (fun v _ => 4 - (intOf v).toNat)
  case atStart => exact ⟨0, rfl, by decide, Lib.hid ⟨HW.out.1, HW.out.2.1, HW.out.2.2.1, _, HW.out.2.2.2, OwnT.nil _ _ _ _⟩⟩
  case round =>
    clear HW
    obtain ⟨h, rfl, hh, HI⟩ := hrel
    by_cases hlt : h < 4
    · obtain ⟨pv, kb7, kpu⟩ := HI.out.2.2.2
      obtain ⟨ul, eul, hul⟩ := HO.out.2.2.2.2 h (by omega)
      obtain ⟨Ah, ch, rfl⟩ := hul.rws.form
      have hsib := sib_lt seed ix h0 h1 h hlt
      have hsib0 := (sib_at ix h0 h1 h hlt).1
      obtain ⟨gh, oh, un, rfl, hgh, -, -, hcu, hbu, hbn⟩ := hul.at' (sibS ix h).toNat hsib
      have HACC : Hid (sigPath seed ix (h + 1) = sigPath seed ix h ++ [(levelS seed h)[(sibS ix h).toNat]]) := Lib.hid (by
        show sigPath seed ix h ++ [(levelS seed h).getD (sibS ix h).toNat []] = _
        rw [List.getD_eq_getElem?_getD, List.getElem?_eq_getElem hsib]; rfl)
      have esib : bits BinOp.xor .i64 (ix / 2 ^ h) 1 = ((sibS ix h).toNat : Int) := by rw [Int.toNat_of_nonneg hsib0]; rfl
      have hpl : (sigPath seed ix h).length ≤ 10 := by rw [sigPath_length]; omega
      have hslen : (((sibS ix h).toNat : Nat) : Int) < (((levelS seed h).length : Nat) : Int) := by omega
      obtain ⟨An, cn, rfl⟩ := hbu.form
      have HUN : Hid (0 < ((levelS seed h)[(sibS ix h).toNat]).length → ∀ g, (Value.slice An ((levelS seed h)[(sibS ix h).toNat]).length cn).ownBlock = some g → S g ∧ g < w.heap.size) := Lib.hid (fun hp g hg => ⟨hbn hp g hg, Sho.lt hbu hp g hg⟩)
      have HBU := Lib.hid (hbu.below HI.out.1)
      have r0 := (HI.out.1.cell (p := ⟨b, 1, none⟩) hbw).trans (HO.out.1.cell 1 _ rfl)
      have r1 := (HI.out.1.cell (p := ⟨gl, ol + h, none⟩) hgl).trans (HO.out.2.2.2.1 h _ eul)
      have r2 := (HI.out.1.cell (p := ⟨gh, oh + (sibS ix h).toNat, none⟩) hgh).trans hcu
      obtain ⟨us3, ku1, ku2⟩ := kpu
      obtain ⟨A3, c3, rfl⟩ := (Sho.own ku1).form
      have r3 := kb7.cell 2 _ rfl
      have HK := Lib.hid (And.intro kb7 (And.intro ku1 ku2))
      have hsz := HI.out.1.size
      have h7 := kb7.lt
      have hh5 : (h : Int) < 5 := by omega
      have hh0 : (0 : Int) ≤ (h : Int) := by omega
      have ehc : IntKind.u64.wrap (h : Int) = (h : Int) := by rw [show IntKind.u64.wrap (h : Int) = (h : Int) % 18446744073709551616 by simp [IntKind.wrap, IntKind.bits, IntKind.signed]]; omega
      clear hcu hbu hbn kb7 ku1 ku2 hul eul hsib0
      generalize (levelS seed h)[(sibS ix h).toNat] = X at *
      generalize (sibS ix h).toNat = sb at *
      generalize levelS seed h = L at *
      generalize sigPath seed ix h = SP at *
      go_wp2
      go_region_law (first
        | ((refine step_append_any rfl (.tmp 23) (.tmp 38) 27 rfl (B7 + 1) 26 i0 (.slice none 0 0) 1 24 Tryz.underlying27 hi0 hz0 hz1 hz2 rfl (by decide) _ SP.length us3 rfl (by first | exact HK.out.2.1 | exact World.ownsRow.alloc HK.out.2.1 _) _ 1 [.slice An X.length cn] rfl (by first | exact news1 _ 26 _ rfl | exact news1_drew _ 26 _ rfl) (by unfold maxLen; omega) (by omega) (by simp; omega) ?_); intro v9 W9 hown9 hgrow9'
           obtain ⟨A9, c9, rfl⟩ := (Sho.own hown9).form
           have hgrow9 : (wr.alloc (.cells #[.slice An X.length cn] 26)).grownBy W9 (Value.slice A3 SP.length c3).ownBlock := ⟨hgrow9'.os, hgrow9'.tape, hgrow9'.output, hgrow9'.size, hgrow9'.block⟩
           have HC9 : Hid (OwnT S W9 w.heap.size (B7 + 1) (.slice A9 (SP.length + 1) c9) (SP ++ [X]) ∧ Chg wr W9 (fun k => (Value.slice A3 SP.length c3).ownBlock = some k)) := Lib.hid ⟨OwnT.push (w := wr) (by omega) HK.out.2.1 HK.out.2.2 HBU.out HUN.out hown9 hgrow9, ((Chg.refl wr _).alloc _).trans (Chg.of_grown hgrow9) (fun i _ h => h.symm)⟩
           have HK9 : Hid (Blk W9 B7 38 [.int .i64 ix, .slice A2 PS.length c2, .slice A3 SP.length c3]) := Lib.hid (HK.out.1.chg HC9.out.2 (fun e => by have := (World.ownsRow.lt HK.out.2.1 B7 e).1; omega))
           have s3 := HK9.out.cell 2 _ rfl
           have f3 := HK9.out.free 2
           clear hown9 hgrow9 hgrow9'))
      all_goals
        have hset : Chg W9 (W9.setCell ⟨B7, 2, none⟩ (.slice A9 (SP.length + 1) c9)) (fun k => k = B7) := (Chg.refl W9 _).setCell _ _ (fun _ => rfl)
        have hC9 : Chg wr W9 (fun k => B7 + 1 ≤ k) := HC9.out.2.mono (fun k _ e => (World.ownsRow.lt HK.out.2.1 k e).1)
        have HALL := Lib.hid (show Below w.heap.size w (W9.setCell ⟨B7, 2, none⟩ (.slice A9 (SP.length + 1) c9)) ∧ Blk (W9.setCell ⟨B7, 2, none⟩ (.slice A9 (SP.length + 1) c9)) w.heap.size 38 [.int .i64 0, .slice none 0 0, .slice none 0 0] ∧ RwsF (fun g => w.heap.size < g ∧ g < B7) (W9.setCell ⟨B7, 2, none⟩ (.slice A9 (SP.length + 1) c9)) (.slice A2 PS.length c2) PS ∧ ∃ pv, Blk (W9.setCell ⟨B7, 2, none⟩ (.slice A9 (SP.length + 1) c9)) B7 38 [.int .i64 ix, .slice A2 PS.length c2, pv] ∧ OwnT S (W9.setCell ⟨B7, 2, none⟩ (.slice A9 (SP.length + 1) c9)) w.heap.size (B7 + 1) pv (sigPath seed ix (h + 1)) from
          ⟨(HI.out.1.trans (hC9.below hsz (fun k hk => by omega))).trans (hset.below (by have := hC9.size; omega) (fun k hk => by omega)), (HI.out.2.1.chg hC9 (by omega)).setOther _ _ (fun e => by have e' : w.heap.size = B7 := e; omega), (HI.out.2.2.1.chg hC9 (fun g hg e => by omega)).chg hset (fun g hg e => by omega), _, HK9.out.set 2 _ (by simp), by rw [HACC.out]; exact HC9.out.1.chg hset (fun g hg => by omega)⟩)
        clear hset hC9 s3 f3
        go_wp2
        go_roundw
        case rel => exact ⟨h + 1, by go_num, by omega, HALL⟩
        case measure => simp [intOf]; omega
    · obtain rfl : h = 4 := by omega
      obtain ⟨pv, kb7, kpu⟩ := HI.out.2.2.2
      obtain ⟨A3, c3, rfl⟩ := kpu.rws.form
      have HK := Lib.hid (And.intro kb7 (And.intro HI.out.2.1 (And.intro HI.out.2.2.1 kpu)))
      have HBel := Lib.hid HI.out.1
      clear kb7 kpu HI
      have q0 := HK.out.1.cell 0 _ rfl
      have q1 := HK.out.1.cell 1 _ rfl
      have q2 := HK.out.1.cell 2 _ rfl
      have z0 := HK.out.2.1.cell 0 _ rfl
      have z1 := HK.out.2.1.cell 1 _ rfl
      have z2 := HK.out.2.1.cell 2 _ rfl
      have ff : ∀ k, wr.frozen? ⟨w.heap.size, k, none⟩ = false := fun k => HK.out.2.1.free k
      go_wp2
      have hch : Chg wr (((wr.setCell ⟨w.heap.size, 0, none⟩ (.int .i64 ix)).setCell ⟨w.heap.size, 1, none⟩ (.slice A2 PS.length c2)).setCell ⟨w.heap.size, 2, none⟩ (.slice A3 (sigPath seed ix 4).length c3)) (fun k => k = w.heap.size) := chg_cell (chg_cell (chg_cell (Chg.refl wr _) 0 _) 1 _) 2 _
      have hfin : Blk (((wr.setCell ⟨w.heap.size, 0, none⟩ (.int .i64 ix)).setCell ⟨w.heap.size, 1, none⟩ (.slice A2 PS.length c2)).setCell ⟨w.heap.size, 2, none⟩ (.slice A3 (sigPath seed ix 4).length c3)) w.heap.size 38 [.int .i64 ix, .slice A2 PS.length c2, .slice A3 (sigPath seed ix 4).length c3] := ((HK.out.2.1.set 0 _ (by simp)).set 1 _ (by simp)).set 2 _ (by simp)
      refine bodyPost_ret (v := .agg [.int .i64 ix, .slice A2 PS.length c2, .slice A3 (sigPath seed ix 4).length c3].toArray) ?_ ?_ ⟨_, rfl, ?_, ?_⟩
      · exact results_cell_row Tryz.results25 _ _ w.heap.size 38 _ (0, 0) _ rfl hfin under_sig rfl size_sig
      · rfl
      · rw [HSG.out]
        exact ⟨_, _, rfl, (HK.out.2.2.1.chg hch (fun g hg e => by omega)).mono (fun g hg => .inr ⟨by have h1 : w.heap.size < g := hg.1; omega, by have h1 : g < B7 := hg.2; have := HK.out.1.lt; have := hch.size; omega⟩), (HK.out.2.2.2.chg2 hch (by omega)).foot.mono (fun g hg => by
          rcases hg with h | h
          · exact .inl h
          · exact .inr ⟨by have := HK.out.2.1.lt; have := HLB7.out; omega, h.2⟩)⟩
      · exact HBel.out.trans (hch.below HBel.out.size (fun k hk => by omega))
set_option maxRecDepth 100000 in
set_option maxHeartbeats 1000000 in
theorem rpub_s (S : Nat → Prop) (b : Nat) (seed : List UInt8) (w : World) (ho : OwnerS S w b seed) :
  Calls Tryz.prog 20 #[.pointer (some ⟨b, 0, none⟩)] w fun e w' => ∃ v, e = .returned v ∧ BysF S w v (ownerS seed) ∧ w = w' := by
 obtain ⟨v, vl, us, k1, -, k2, -, k3, -, k4⟩ := ho
 obtain ⟨u, e4, hu⟩ := k4 4 (Nat.le_refl _)
 obtain ⟨Al, cl, rfl⟩ := k3.form
 obtain ⟨gl, ol, rfl, -, hgl, hcl, -, hcells⟩ := k3.place (by decide)
 have p4 := hcells 4 u e4
 have hl1 := (levelS_length seed).2.2.2.2
 obtain ⟨A4, c4, rfl⟩ := hu.rws.form
 obtain ⟨g0, o0, u0, rfl, hg0, -, -, hcu, hbu, hbn⟩ := hu.at' 0 (by omega)
 rw [Nat.add_zero] at hcu
 have q1 := k1.cell 1 _ rfl
 have hl0 : (0 : Int) < ((levelS seed 4).length : Int) := by omega
 have HB : Hid (BysF S w u0 (ownerS seed)) := Lib.hid (by
  unfold ownerS
  rw [List.getD_eq_getElem?_getD, List.getElem?_eq_getElem (show 0 < (levelS seed 4).length by omega)]
  exact ⟨hbu, hbn⟩)
 clear hbu hbn
 obtain ⟨A0, c0, rfl⟩ := HB.out.1.form
 clear hcells hl1 k4 hu k1 k2 k3 e4
 go_enter Tryz.func20, Tryz.ntmps20
 go_wp2
 go_ret
 exact ⟨_, rfl, HB.out, rfl⟩
end Go.Proofs.YtlkgeifmppadmaaGreat
