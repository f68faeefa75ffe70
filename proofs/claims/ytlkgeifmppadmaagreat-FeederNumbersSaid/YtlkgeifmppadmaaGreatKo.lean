/- The feeder's plain law: what an offer and a step make of it. No walk. The feeder as the laws meet it: each of its steps, with what the law keeps of it. The law's known. The law's cosignatures. FeederAsks, its plain law: what the feeder makes of its rounds. No walk. The law FeederOffers: what a round holds. No walk. The law's requests: two rows that show the same. Two feeders beside each other, as the laws meet them. FeederDones, its plain law: cosignatures that are kept, and what is told when a quorum is there. No walk. The law FeederDones. FeederPlays: the feeder and the model side by side in memory. No walk. The law's policy, and where its texts lie. The law's asks, all five cells. FeederPlays: what play holds of its feeder, its model and its owners. No walk. Conditions: as each theorem states them. -/
import Derived.Test.YtlkgeifmppadmaaGreatKn
import Derived.Test.YtlkgeifmppadmaaGreatKg
import Derived.Test.YtlkgeifmppadmaaGreatKm
import Derived.Test.YtlkgeifmppadmaaGreatKk
import Derived.Test.YtlkgeifmppadmaaGreatKh
import Derived.Test.YtlkgeifmppadmaaGreatKa
namespace Go.Proofs.YtlkgeifmppadmaaGreat
open Go.RowKit
set_option linter.unusedVariables false
set_option linter.unusedSimpArgs false

theorem mem_insE {x y : Ent} {m : List Ent} : y ∈ insE x m ↔ y = x ∨ y ∈ m := by
 have := (insE_perm x m).mem_iff (a := y)
 rw [this]
 simp [or_comm]
theorem mem_keepW {what : Int} {y : Ent} {m : List Ent} : y ∈ keepW what m ↔ y ∈ m ∧ y.wh ≠ what := by simp [keepW]
theorem countP_insE (p : Ent → Bool) (x : Ent) (m : List Ent) : (insE x m).countP p = m.countP p + (if p x then 1 else 0) := by
 rw [(insE_perm x m).countP_eq, List.countP_append]
 simp [List.countP_cons]
theorem countP_keepW (p : Ent → Bool) (what : Int) (m : List Ent) (h : ∀ x ∈ m, p x = true → x.wh ≠ what) : (keepW what m).countP p = m.countP p := by
 unfold keepW
 rw [List.countP_filter]
 apply List.countP_congr
 intro x hx
 by_cases hp : p x = true
 ·simp [hp, h x hx hp]
 ·simp [hp]
theorem offM_all (m : List Ent) (ord now : Int) (hm : ∀ x ∈ m, 0 ≤ x.wh) : ∀ i : Nat, (∀ x ∈ offM m ord now i, 0 ≤ x.wh ∧ ((x.wh < (i : Int) ∧ x.tm = now) ∨ (x ∈ m ∧ (i : Int) ≤ x.wh))) ∧ (offM m ord now i).countP (fun x => decide (x.wh < (i : Int))) = i
 | 0 => ⟨fun x hx => ⟨hm x hx, .inr ⟨hx, hm x hx⟩⟩, by
   rw [List.countP_eq_zero]
   intro x hx
   have := hm x hx
   simp; omega⟩
 | i + 1 => by
  obtain ⟨h1, h2⟩ := offM_all m ord now hm i
  have hk : ∀ x ∈ keepW (i : Int) (offM m ord now i), 0 ≤ x.wh ∧ ((x.wh < (i : Int) ∧ x.tm = now) ∨ (x ∈ m ∧ (i : Int) + 1 ≤ x.wh)) := fun x hx => by
   obtain ⟨a, b⟩ := mem_keepW.1 hx
   obtain ⟨c, e⟩ := h1 x a
   refine ⟨c, ?_⟩
   rcases e with e | e
   ·exact .inl e
   ·exact .inr ⟨e.1, by have := e.2; omega⟩
  constructor
  ·intro x hx
   rcases mem_insE.1 hx with rfl | hx
   ·exact ⟨by show (0 : Int) ≤ (i : Int); omega, .inl ⟨by show (i : Int) < ((i + 1 : Nat) : Int); omega, rfl⟩⟩
   ·obtain ⟨a, b⟩ := hk x hx
    refine ⟨a, ?_⟩
    rcases b with b | b
    ·exact .inl ⟨by have := b.1; omega, b.2⟩
    ·exact .inr ⟨b.1, by have := b.2; omega⟩
  ·show (insE _ (keepW (i : Int) (offM m ord now i))).countP _ = _
   rw [countP_insE]
   have e1 : (keepW (i : Int) (offM m ord now i)).countP (fun x => decide (x.wh < ((i + 1 : Nat) : Int))) = (keepW (i : Int) (offM m ord now i)).countP (fun x => decide (x.wh < (i : Int))) := by
    apply List.countP_congr
    intro x hx
    have := (mem_keepW.1 hx).2
    simp only [decide_eq_true_eq]
    omega
   rw [e1, countP_keepW _ _ _ (fun x hx hp => by simp at hp; omega), h2, if_pos (by simp; omega)]
theorem offM_due (m : List Ent) (ord now : Int) (k : Nat) (hm : ∀ x ∈ m, 0 ≤ x.wh ∧ x.wh < (k : Int)) : (∀ x ∈ offM m ord now k, 0 ≤ x.wh ∧ x.wh < (k : Int) ∧ x.tm = now) ∧ (offM m ord now k).length = k := by
 obtain ⟨h1, h2⟩ := offM_all m ord now (fun x hx => (hm x hx).1) k
 have h3 : ∀ x ∈ offM m ord now k, 0 ≤ x.wh ∧ x.wh < (k : Int) ∧ x.tm = now := fun x hx => by
  obtain ⟨a, b⟩ := h1 x hx
  rcases b with b | b
  ·exact ⟨a, b.1, b.2⟩
  ·have := (hm x b.1).2; have := b.2; omega
 refine ⟨h3, ?_⟩
 have h4 : (offM m ord now k).countP (fun x => decide (x.wh < (k : Int))) = (offM m ord now k).length := by
  rw [List.countP_eq_length]
  intro x hx
  simp [(h3 x hx).2.1]
 rw [← h4, h2]
theorem stN_wh (now : Int) (n : Nat) (ws : List Nat) : ∀ d : FdD, (∀ x ∈ d.m, 0 ≤ x.wh ∧ x.wh < (n : Int)) → (∀ k ∈ ws, k < n) → ∀ x ∈ (stN now d ws).m, 0 ≤ x.wh ∧ x.wh < (n : Int) := by
 induction ws with
 | nil => intro d h _; exact h
 | cons k ws ih =>
  intro d h hw
  refine ih (st1 now d k) (fun x hx => ?_) (fun j hj => hw j (List.mem_cons_of_mem _ hj))
  rcases mem_insE.1 hx with rfl | hx
  ·have := hw k (by simp)
   exact ⟨by show (0 : Int) ≤ (k : Int); omega, by show (k : Int) < (n : Int); omega⟩
  ·exact h x (mem_keepW.1 hx).1
structure FdJ (d : FdD) (p : PolD) (retry : Int) (n : Nat) (B : Nat) : Prop where
 pol : d.p = p
 re : d.retry = retry
 len : d.l.length = n
 wh : ∀ x ∈ d.m, 0 ≤ x.wh ∧ x.wh < (n : Int)
 ml : d.m.length ≤ 8 * B
 ord : d.ord ≤ 8 * (B : Int)
 tr : TrOk d.l (8 * (B : Int))
 sm : SmallSig d.cur.sig ∧ d.cur.ck.root.length ≤ 100000000
theorem tr_rst (l : List WtD) : TrOk (l.map rst) 0 := fun k => by
 unfold wAt
 rw [List.getD_eq_getElem?_getD, List.getElem?_map]
 cases l[k]? with
 | none => exact ⟨Int.le_refl _, Int.le_refl _⟩
 | some x => exact ⟨Int.le_refl _, Int.le_refl _⟩
theorem fdj_new (p : PolD) (retry : Int) : FdJ (fdNew p retry) p retry p.wits.length 0 := by
 refine ⟨rfl, rfl, by simp [fdNew], fun x hx => by simp [fdNew] at hx, by simp [fdNew], by simp [fdNew], fun k => ?_, ⟨⟨Nat.zero_le _, Nat.zero_le _, fun i h => absurd h (Nat.not_lt_zero _), fun i h => absurd h (Nat.not_lt_zero _)⟩, Nat.zero_le _⟩⟩
 show 0 ≤ (wAt (List.replicate p.wits.length ⟨0, 0, false⟩) k).tries ∧ _
 have e : (wAt (List.replicate p.wits.length ⟨0, 0, false⟩) k).tries = 0 := by
  unfold wAt
  rw [List.getD_eq_getElem?_getD, List.getElem?_replicate]
  split <;> rfl
 rw [show (fdNew p retry).l = List.replicate p.wits.length ⟨0, 0, false⟩ from rfl, e]
 exact ⟨Int.le_refl _, by omega⟩
theorem FdJ.offer {d : FdD} {p : PolD} {retry : Int} {n B : Nat} (h : FdJ d p retry n B) (hn : n ≤ 4) (s : SgD) (hs : SmallSig s.sig) (hr : s.ck.root.length ≤ 100000000) (now : Int) : FdJ (offD d s now) p retry n (B + 1) := by
 obtain ⟨h1, h2⟩ := offM_due d.m d.ord now n h.wh
 have e : (offD d s now).m = offM d.m d.ord now n := by show offM d.m d.ord now d.l.length = _; rw [h.len]
 refine ⟨h.pol, h.re, by show (d.l.map rst).length = n; rw [List.length_map, h.len], by rw [e]; exact fun x hx => ⟨(h1 x hx).1, (h1 x hx).2.1⟩, by rw [e, h2]; omega, ?_, ?_, ⟨hs, hr⟩⟩
 ·show ordN d.ord d.l.length ≤ _
  rw [ordN_eq, h.len]
  have := h.ord
  omega
 ·intro k
  have := tr_rst d.l k
  exact ⟨this.1, by have := this.2; show (wAt (d.l.map rst) k).tries ≤ _; omega⟩
theorem who_lt {d : FdD} {n : Nat} (h : ∀ x ∈ d.m, 0 ≤ x.wh ∧ x.wh < (n : Int)) (now : Int) : ∀ k ∈ whoL d.m now, k < n := fun k hk => by
 simp only [whoL, List.mem_map] at hk
 obtain ⟨x, hx, rfl⟩ := hk
 have := h x ((List.takeWhile_prefix _).subset hx)
 omega
theorem FdJ.step {d : FdD} {p : PolD} {retry : Int} {n B : Nat} (h : FdJ d p retry n B) (now : Int) (hq : dueN d.m now ≤ 8) : FdJ (stepD d now) p retry n (B + 1) := by
 have hw : (whoL d.m now).length ≤ 8 := by simp only [whoL, List.length_map]; exact hq
 have hd : (d.m.drop (dueN d.m now)).length ≤ d.m.length := by rw [List.length_drop]; omega
 refine ⟨by rw [stepD, stN_p]; exact h.pol, by rw [stepD, stN_retry]; exact h.re, by rw [stepD, stN_l]; exact h.len, ?_, ?_, ?_, ?_, ?_⟩
 ·exact stN_wh now n _ _ (fun x hx => h.wh x (List.mem_of_mem_drop hx)) (who_lt h.wh now)
 ·have := stN_m now (whoL d.m now) { d with m := d.m.drop (dueN d.m now) }
  have h2 := h.ml
  show (stN now _ _).m.length ≤ _
  have h3 : ({ d with m := d.m.drop (dueN d.m now) } : FdD).m.length ≤ d.m.length := hd
  omega
 ·show (stN now _ _).ord ≤ _
  rw [stN_ord]
  have h2 := h.ord
  show d.ord + _ ≤ _
  omega
 ·have := stN_tr now (whoL d.m now) { d with m := d.m.drop (dueN d.m now) } (8 * (B : Int)) h.tr
  intro k
  have h2 := this k
  exact ⟨h2.1, by have := h2.2; show (wAt (stN now _ _).l k).tries ≤ _; omega⟩
 ·have e : ∀ (ws : List Nat) (d : FdD), (stN now d ws).cur = d.cur := fun ws => by
   induction ws with
   | nil => intro d; rfl
   | cons k ws ih => intro d; show (stN now (st1 now d k) ws).cur = _; rw [ih]; rfl
  have e2 : (stepD d now).cur = d.cur := e _ _
  rw [e2]
  exact h.sm
def FS (B : Nat) (w : World) (f : Nat) (d : FdD) : Prop := ∃ Z, FdAt Z w f d ∧ ∀ g, Z g → B ≤ g ∧ g < w.heap.size
theorem FS.below {B : Nat} {w w1 : World} {f : Nat} {d : FdD} (h : FS B w f d) (hb : Below w.heap.size w w1) : FS B w1 f d := by
 obtain ⟨Z, h1, h2⟩ := h
 exact ⟨Z, h1.below hb, fun g hg => ⟨(h2 g hg).1, Nat.lt_of_lt_of_le (h2 g hg).2 hb.size⟩⟩
theorem OwnersS.keep {B : Nat} {S : Nat → Prop} {w w1 : World} {v : Value} {n : Nat} (h : OwnersS S w v n) (hS : ∀ g, S g → g < B) (hb : Below B w w1) : OwnersS S w1 v n := h.chg (chg_belowB hb) (fun g hg e => by have := hS g hg; have h2 : B ≤ g := e; omega)
theorem new_fs (v : Value) (p : PolD) (retry : Int) (hs : SmallPol p) (hpb : polB p = true) (hr1 : 1 ≤ retry) (hr2 : retry ≤ 100) (w : World) (hv : PolV w v p) :
  Calls Tryz.prog 9 #[v, .int .i64 retry] w fun e w' => ∃ f, e = .returned (.tuple #[.pointer (some ⟨f, 0, none⟩), .int .i64 0]) ∧ FS w.heap.size w' f (fdNew p retry) ∧ Below w.heap.size w w' := by
 refine (fnew_yes v p retry hs hpb hr1 hr2 w hv).mono ?_
 rintro e w' ⟨f, Z, h1, h2, h3, h4⟩
 exact ⟨f, h1, ⟨Z, h2, h3⟩, h4⟩
def offN (d : FdD) (s : SgD) (now : Int) : FdD := if offB d s = true then offD d s now else d
theorem FdJ.offN {d : FdD} {p : PolD} {retry : Int} {n B : Nat} (h : FdJ d p retry n B) (hn : n ≤ 4) (s : SgD) (hs : SmallSig s.sig) (hr : s.ck.root.length ≤ 100000000) (now : Int) : FdJ (offN d s now) p retry n (B + 1) := by
 unfold Go.Proofs.YtlkgeifmppadmaaGreat.offN
 by_cases hb : offB d s = true
 ·rw [if_pos hb]
  exact h.offer hn s hs hr now
 ·rw [if_neg hb]
  exact ⟨h.pol, h.re, h.len, h.wh, by have := h.ml; omega, by have := h.ord; omega, fun k => by have := h.tr k; exact ⟨this.1, by have := this.2; omega⟩, h.sm⟩
theorem offer_fs (B : Nat) (f : Nat) (d : FdD) (p : PolD) (retry : Int) (n K : Nat) (v : Value) (s : SgD) (now : Int) (hj : FdJ d p retry n K) (hn : n ≤ 4) (hK : K ≤ 10000) (hp : p.log.length ≤ 1000000000) (hr : s.ck.root.length ≤ 100000000) (hs : SmallSig s.sig) (w : World) (hB : B ≤ w.heap.size) (h : FS B w f d) (hv : SgV w v s) :
  Calls Tryz.prog 11 #[.pointer (some ⟨f, 0, none⟩), v, .int .i64 now] w fun e w' => e = .returned (.bool (offB d s)) ∧ FS B w' f (offN d s now) ∧ Below B w w' := by
 obtain ⟨Z, ⟨r, us, es, h1⟩, h2⟩ := h
 have hlog : d.p.log.length ≤ 1000000000 := by rw [hj.pol]; exact hp
 cases hb : offB d s with
 | false =>
  refine (offer_no Z f d r us es v s now hlog hr hs w h1 hv hb).mono ?_
  rintro e w' ⟨e1, e2⟩
  refine ⟨e1, ?_, e2.mono hB⟩
  unfold offN
  rw [hb, if_neg (by decide)]
  exact FS.below ⟨Z, ⟨r, us, es, h1⟩, h2⟩ e2
 | true =>
  have h0 := hb
  simp only [offB, Bool.and_eq_true, Bool.not_eq_true', Bool.and_eq_false_iff, decide_eq_false_iff_not] at h0
  obtain ⟨a1, a2⟩ := h0
  refine (offer_yes Z f d r us es v s now hlog hr hs w h1 hv a1 (fun hh => by
   rcases a2 with a2 | a2
   ·rw [hh] at a2; exact absurd a2 (by decide)
   ·omega) (by have := hj.ml; omega) (by have := hj.ord; omega) (by rw [hj.len]; omega) (fun g hg => (h2 g hg).2)).mono ?_
  rintro e w' ⟨e1, e2, e3⟩
  refine ⟨e1, ?_, e3.below hB (fun k hk => (h2 k hk).1)⟩
  unfold offN
  rw [hb, if_pos rfl]
  refine ⟨_, e2, fun g hg => ?_⟩
  have hz := e3.size
  rcases hg with hg | hg
  ·have := h2 g hg; exact ⟨this.1, by omega⟩
  ·exact ⟨by have : w.heap.size ≤ g := hg.1; omega, hg.2⟩
theorem step_fs (B : Nat) (f : Nat) (d : FdD) (p : PolD) (retry : Int) (n K : Nat) (now : Int) (hj : FdJ d p retry n K) (hn : n ≤ 4) (hK : K ≤ 10000) (hre : 1 ≤ retry ∧ retry ≤ 1000) (hnow : 0 ≤ now ∧ now ≤ 1000000000000) (w : World) (hB : B ≤ w.heap.size) (h : FS B w f d) :
  Calls Tryz.prog 35 #[.pointer (some ⟨f, 0, none⟩), .int .i64 now] w fun e w' => ∃ A c, e = .returned (.slice A (reqL d now).length c) ∧ w'.ownsRow w.heap.size 115 2 (.slice A (reqL d now).length c) (reqL d now).length (reqCells (reqL d now)) ∧ FS B w' f (stepD d now) ∧ Below B w w' := by
 obtain ⟨Z, h1, h2⟩ := h
 refine (step_any Z f d now hnow (by rw [hj.re]; exact hre) (by have := hj.ml; omega) (by have := hj.ord; omega) (fun x hx => by rw [hj.len]; exact hj.wh x hx) (fun k => by have := hj.tr k; exact ⟨this.1, by have := this.2; omega⟩) (by rw [hj.len]; omega) w (fun g hg => (h2 g hg).2) h1).mono ?_
 rintro e w' ⟨v, rfl, e1, e2, e3⟩
 obtain ⟨A, c, rfl⟩ := (Sho.own e1).form
 refine ⟨A, c, rfl, e1, ⟨_, e2, fun g hg => ?_⟩, e3.below hB (fun k hk => (h2 k hk).1)⟩
 have hz := e3.size
 rcases hg with hg | hg
 ·have := h2 g hg; exact ⟨this.1, by omega⟩
 ·exact ⟨by have : w.heap.size ≤ g := hg.1; omega, hg.2⟩
theorem known_law (P : PolD) (hw : P.wits.length = 2) (s : SgD) : (reqL (offD (fdNew P 5) s 0) 0).length = 2 ∧ (reqL (stepD (offD (fdNew P 5) s 0) 0) 0).length = 0 ∧ (reqL (stepD (stepD (offD (fdNew P 5) s 0) 0) 0) 5).length = 2 := by
 have e : offD (fdNew P 5) s 0 = ⟨P, 5, [⟨0, 0, 0⟩, ⟨0, 1, 1⟩], 2, [⟨0, 0, false⟩, ⟨0, 0, false⟩], s, true, [], zSg, []⟩ := by
  unfold offD fdNew
  dsimp only
  rw [hw]
  rfl
 rw [e]
 generalize zSg = z
 refine ⟨rfl, ?_, ?_⟩
 ·have e1 : stepD ⟨P, 5, [⟨0, 0, 0⟩, ⟨0, 1, 1⟩], 2, [⟨0, 0, false⟩, ⟨0, 0, false⟩], s, true, [], z, []⟩ 0 = ⟨P, 5, [⟨5, 2, 0⟩, ⟨5, 3, 1⟩], 4, [⟨0, 1, false⟩, ⟨0, 1, false⟩], s, true, [], z, []⟩ := rfl
  rw [e1]; rfl
 ·have e1 : stepD ⟨P, 5, [⟨0, 0, 0⟩, ⟨0, 1, 1⟩], 2, [⟨0, 0, false⟩, ⟨0, 0, false⟩], s, true, [], z, []⟩ 0 = ⟨P, 5, [⟨5, 2, 0⟩, ⟨5, 3, 1⟩], 4, [⟨0, 1, false⟩, ⟨0, 1, false⟩], s, true, [], z, []⟩ := rfl
  have e2 : stepD ⟨P, 5, [⟨5, 2, 0⟩, ⟨5, 3, 1⟩], 4, [⟨0, 1, false⟩, ⟨0, 1, false⟩], s, true, [], z, []⟩ 0 = ⟨P, 5, [⟨5, 2, 0⟩, ⟨5, 3, 1⟩], 4, [⟨0, 1, false⟩, ⟨0, 1, false⟩], s, true, [], z, []⟩ := rfl
  rw [e1, e2]; rfl
structure LawS (S : Nat → Prop) (B : Nat) (w wr : World) (v : Value) (n f : Nat) (d : FdD) : Prop where
 own : OwnersS S wr v n
 fs : FS B wr f d
 low : ∀ g, S g → g < B
 size : B ≤ wr.heap.size
 base : w.heap.size ≤ B
 below : Below w.heap.size w wr
theorem LawS.turn {S : Nat → Prop} {B : Nat} {w wr w1 : World} {v : Value} {n f : Nat} {d d1 : FdD} (h : LawS S B w wr v n f d) (hf : FS B w1 f d1) (hb : Below B wr w1) : LawS S B w w1 v n f d1 :=
 ⟨h.own.keep h.low hb, hf, h.low, Nat.le_trans h.size hb.size, h.base, h.below.trans (hb.mono h.base)⟩
theorem LawS.quiet {S : Nat → Prop} {B : Nat} {w wr w1 : World} {v : Value} {n f : Nat} {d : FdD} (h : LawS S B w wr v n f d) (hb : Below wr.heap.size wr w1) : LawS S B w w1 v n f d :=
 h.turn (h.fs.below hb) (hb.mono h.size)
theorem LawS.in {S : Nat → Prop} {B : Nat} {w wr : World} {v : Value} {n f : Nat} {d : FdD} (h : LawS S B w wr v n f d) : ∀ g, S g → g < wr.heap.size := fun g hg => Nat.lt_of_lt_of_le (h.low g hg) h.size
theorem OwnersS.get {S : Nat → Prop} {w : World} {g o m c n : Nat} (h : OwnersS S w (.slice (some ⟨g, o, none⟩) m c) n) (i : Nat) (hi : i < n) : ∃ b, g < w.heap.size ∧ w.cell? ⟨g, o + i, none⟩ = some (.pointer (some ⟨b, 0, none⟩)) ∧ OwnerS S w b (seedS (i : Int)) := by
 obtain ⟨g', o', b, e, h1, -, -, h2, h3⟩ := h.at' i hi
 injection e with e
 injection e with e1 e2
 subst e1 e2
 exact ⟨b, h1, h2, h3⟩
theorem reqL_dueN (d : FdD) (now : Int) : dueN d.m now = (reqL d now).length := by simp [reqL, whoL, dueN]
theorem signed_small (seed : List UInt8) (z : Int) (h0 : 0 ≤ z) : SmallSig (signedS seed z).sig ∧ (signedS seed z).ck.root.length ≤ 100000000 := ⟨small_of seed (z % 16) (by omega) (by omega) _, by show (hashS z).length ≤ _; rw [hashS_length]; decide⟩
theorem known_off (P : PolD) (s3 s2 : SgD) (h3 : ckVerB P.log s3 = true) (n3 : s3.ck.num = 3) (n2 : s2.ck.num = 2) : offB (fdNew P 5) s3 = true ∧ offB (offD (fdNew P 5) s3 0) s2 = false := by
 constructor
 ·show (ckVerB P.log s3 && !(false && _)) = true
  rw [h3]; rfl
 ·show (ckVerB P.log s2 && !(true && decide (s2.ck.num ≤ s3.ck.num))) = false
  rw [n3, n2]; simp
set_option maxRecDepth 100000 in
set_option maxHeartbeats 8000000 in
theorem known_any (w : World) : Calls Tryz.prog 16 #[] w fun e w' => e = .returned (.bool true) ∧ Below w.heap.size w w' := by
 have HO := Lib.hid (fun wz : World => owners_any 2 (by decide) wz)
 change Hid (∀ wz : World, Calls Tryz.prog 7 #[.int .i64 2] wz fun e w' => ∃ v, e = .returned v ∧ OwnersS (fun g => wz.heap.size ≤ g ∧ g < w'.heap.size) w' v 3 ∧ Below wz.heap.size wz w') at HO
 have HPO := Lib.hid (fun (wz : World) (S : Nat → Prop) (v : Value) (z1 : OwnersS S wz v 3) (z2 : ∀ g, S g → g < wz.heap.size) => lpolicy_any S 2 1 v (by decide) wz z1 z2)
 have HNW := Lib.hid (fun (wz : World) (v : Value) (z : PolV wz v (polS 2 1)) => new_fs v (polS 2 1) 5 (pol_small 2 1 (by decide) (by decide) (by decide)) (pol_right 2 1 (by decide) (by decide) (by decide) (by decide)) (by decide) (by decide) wz z)
 have HS3 := Lib.hid (fun (wz : World) (S : Nat → Prop) (b : Nat) (z1 : OwnerS S wz b (seedS ((0 : Nat) : Int))) (z2 : ∀ g, S g → g < wz.heap.size) => signed_any S b (seedS ((0 : Nat) : Int)) 3 (by decide) (by decide) (by rw [seedS_length]; decide) wz z1 z2)
 have HS2 := Lib.hid (fun (wz : World) (S : Nat → Prop) (b : Nat) (z1 : OwnerS S wz b (seedS ((0 : Nat) : Int))) (z2 : ∀ g, S g → g < wz.heap.size) => signed_any S b (seedS ((0 : Nat) : Int)) 2 (by decide) (by decide) (by rw [seedS_length]; decide) wz z1 z2)
 have HV3 : Hid (ckVerB (polS 2 1).log (signedS (seedS ((0 : Nat) : Int)) 3) = true) := Lib.hid (ck_of (seedS 0) 3 (by decide) (by decide))
 have hm3 := signed_small (seedS ((0 : Nat) : Int)) 3 (by decide)
 have hm2 := signed_small (seedS ((0 : Nat) : Int)) 2 (by decide)
 have hn3 : (signedS (seedS ((0 : Nat) : Int)) 3).ck.num = 3 := rfl
 have hn2 : (signedS (seedS ((0 : Nat) : Int)) 2).ck.num = 2 := rfl
 have hpl : (polS 2 1).log.length ≤ 1000000000 := by show (ownerS (seedS 0)).length ≤ _; rw [ownerS_length]; decide
 have hpw : (polS 2 1).wits.length = 2 := witS_length 2
 generalize signedS (seedS ((0 : Nat) : Int)) 3 = s3 at *
 generalize signedS (seedS ((0 : Nat) : Int)) 2 = s2 at *
 generalize polS 2 1 = P at *
 obtain ⟨ho3, ho2⟩ := known_off P s3 s2 HV3.out hn3 hn2
 obtain ⟨hr1, hr2, hr3⟩ := known_law P hpw s3
 have hj0 := fdj_new P 5
 rw [hpw] at hj0
 have e1 : offN (fdNew P 5) s3 0 = offD (fdNew P 5) s3 0 := by unfold offN; rw [ho3, if_pos rfl]
 have e2 : offN (offD (fdNew P 5) s3 0) s2 0 = offD (fdNew P 5) s3 0 := by unfold offN; rw [ho2, if_neg (by decide)]
 have hj1 := hj0.offN (by decide) s3 hm3.1 hm3.2 0
 rw [e1] at hj1
 have hj2 := hj1.offN (by decide) s2 hm2.1 hm2.2 0
 rw [e2] at hj2
 have hj3 := hj2.step 0 (by rw [reqL_dueN, hr1]; decide)
 have hj4 := hj3.step 0 (by rw [reqL_dueN, hr2]; decide)
 have HOF1 := Lib.hid (fun (wz : World) (B f : Nat) (v : Value) (z0 : B ≤ wz.heap.size) (z1 : FS B wz f (fdNew P 5)) (z2 : SgV wz v s3) => offer_fs B f (fdNew P 5) P 5 2 0 v s3 0 hj0 (by decide) (by decide) hpl hm3.2 hm3.1 wz z0 z1 z2)
 rw [ho3, e1] at HOF1
 have HOF2 := Lib.hid (fun (wz : World) (B f : Nat) (v : Value) (z0 : B ≤ wz.heap.size) (z1 : FS B wz f (offD (fdNew P 5) s3 0)) (z2 : SgV wz v s2) => offer_fs B f (offD (fdNew P 5) s3 0) P 5 2 _ v s2 0 hj1 (by decide) (by decide) hpl hm2.2 hm2.1 wz z0 z1 z2)
 rw [ho2, e2] at HOF2
 have HST1 := Lib.hid (fun (wz : World) (B f : Nat) (z0 : B ≤ wz.heap.size) (z1 : FS B wz f (offD (fdNew P 5) s3 0)) => step_fs B f _ P 5 2 _ 0 hj2 (by decide) (by decide) (by decide) (by decide) wz z0 z1)
 rw [hr1] at HST1
 have HST2 := Lib.hid (fun (wz : World) (B f : Nat) (z0 : B ≤ wz.heap.size) (z1 : FS B wz f (stepD (offD (fdNew P 5) s3 0) 0)) => step_fs B f _ P 5 2 _ 0 hj3 (by decide) (by decide) (by decide) (by decide) wz z0 z1)
 rw [hr2] at HST2
 have HST3 := Lib.hid (fun (wz : World) (B f : Nat) (z0 : B ≤ wz.heap.size) (z1 : FS B wz f (stepD (stepD (offD (fdNew P 5) s3 0) 0) 0)) => step_fs B f _ P 5 2 _ 5 hj4 (by decide) (by decide) (by decide) (by decide) wz z0 z1)
 rw [hr3] at HST3
 clear hm3 hm2 hn3 hn2 hpl hpw ho3 ho2 hr1 hr2 hr3 hj0 hj1 hj2 hj3 hj4 e1 e2 HV3
 generalize stepD (stepD (offD (fdNew P 5) s3 0) 0) 5 = d4 at *
 generalize stepD (stepD (offD (fdNew P 5) s3 0) 0) 0 = d3 at *
 generalize stepD (offD (fdNew P 5) s3 0) 0 = d2 at *
 generalize offD (fdNew P 5) s3 0 = d1 at *
 generalize fdNew P 5 = d0 at *
 generalize hsd : seedS ((0 : Nat) : Int) = sd at *
 have HSD := Lib.hid hsd
 clear hsd
 go_enter Tryz.func16, Tryz.ntmps16
 go_wp2_with fail
 refine (HO.out _).mono ?_
 rintro e w1 ⟨v1, rfl, h1, h2⟩
 obtain ⟨A, c, rfl⟩ := h1.form
 have H1 := Lib.hid (And.intro h1 h2)
 clear h1 h2
 go_wp2_with fail
 refine (HPO.out _ _ _ H1.out.1 (fun g hg => hg.2)).mono ?_
 rintro e w2 ⟨v2, rfl, h1, h2⟩
 have H2 := Lib.hid (And.intro h1 h2)
 clear h1 h2
 go_wp2_with fail
 refine (HNW.out _ _ H2.out.1).mono ?_
 rintro e w3 ⟨f, rfl, h1, h2⟩
 have H3 : Hid (LawS (fun g => w.heap.size ≤ g ∧ g < w1.heap.size) w2.heap.size w w3 (.slice A 3 c) 3 f d0) := Lib.hid ⟨(H1.out.1.below H2.out.2).below h2, h1, fun g hg => Nat.lt_of_lt_of_le hg.2 H2.out.2.size, h2.size, Nat.le_trans H1.out.2.size H2.out.2.size, (H1.out.2.trans (H2.out.2.mono H1.out.2.size)).trans (h2.mono (Nat.le_trans H1.out.2.size H2.out.2.size))⟩
 clear h1 h2
 obtain ⟨g, o, b0, rfl, hg, -, hcap, hc0, ho0⟩ := H3.out.own.at' 0 (by decide)
 rw [Nat.add_zero] at hc0
 rw [HSD.out] at ho0
 go_wp2_with fail
 refine (HS3.out _ _ _ ho0 H3.out.in).mono ?_
 rintro e w4 ⟨v4, rfl, h1, h2⟩
 have H4 := Lib.hid (And.intro h1.sgv (H3.out.quiet h2))
 clear h1 h2 hc0 ho0 hg
 go_wp2_with fail
 refine (HOF1.out _ _ _ _ H4.out.2.size H4.out.2.fs H4.out.1).mono ?_
 rintro e w5 ⟨rfl, h1, h2⟩
 have H5 := Lib.hid (H4.out.2.turn h1 h2)
 clear h1 h2
 obtain ⟨b0, hg, hc0, ho0⟩ := H5.out.own.get 0 (by decide)
 rw [Nat.add_zero] at hc0
 rw [HSD.out] at ho0
 go_wp2_with fail
 refine (HS2.out _ _ _ ho0 H5.out.in).mono ?_
 rintro e w6 ⟨v6, rfl, h1, h2⟩
 have H6 := Lib.hid (And.intro h1.sgv (H5.out.quiet h2))
 clear h1 h2 hc0 ho0 hg
 go_wp2_with fail
 refine (HOF2.out _ _ _ _ H6.out.2.size H6.out.2.fs H6.out.1).mono ?_
 rintro e w7 ⟨rfl, h1, h2⟩
 have H7 := Lib.hid (H6.out.2.turn h1 h2)
 clear h1 h2
 go_wp2_with fail
 refine (HST1.out _ _ _ H7.out.size H7.out.fs).mono ?_
 rintro e w8 ⟨A8, c8, rfl, -, h1, h2⟩
 have H8 := Lib.hid (H7.out.turn h1 h2)
 clear h1 h2
 go_wp2_with fail
 refine (HST2.out _ _ _ H8.out.size H8.out.fs).mono ?_
 rintro e w9 ⟨A9, c9, rfl, -, h1, h2⟩
 have H9 := Lib.hid (H8.out.turn h1 h2)
 clear h1 h2
 go_wp2_with fail
 refine (HST3.out _ _ _ H9.out.size H9.out.fs).mono ?_
 rintro e w10 ⟨A10, c10, rfl, -, h1, h2⟩
 have H10 := Lib.hid (H9.out.turn h1 h2)
 clear h1 h2
 go_wp2
 go_ret
 exact ⟨rfl, H10.out.below⟩
theorem far4 (w : World) (b : Nat) (u0 u1 u2 u3 : Value) (a : Addr) (h : b ≠ a.block) : ((((w.setCell ⟨b, 0, none⟩ u0).setCell ⟨b, 1, none⟩ u1).setCell ⟨b, 2, none⟩ u2).setCell ⟨b, 3, none⟩ u3).cell? a = w.cell? a := by
 rw [World.cell?_setCell_far _ _ _ _ h, World.cell?_setCell_far _ _ _ _ h, World.cell?_setCell_far _ _ _ _ h, World.cell?_setCell_far _ _ _ _ h]
def cosigS (seed : List UInt8) (k : Int) (c : CkD) : CgD := ⟨k, signS seed (c.num % 16) (bodyS tagCo c)⟩
set_option maxRecDepth 100000 in
set_option maxHeartbeats 8000000 in
theorem cosig_any (S : Nat → Prop) (g o cc n k : Nat) (vc : Value) (c : CkD) (hk : k + 1 < n) (hn : n ≤ 100) (h0 : 0 ≤ c.num) (h1 : c.num ≤ 256) (hr : c.root.length ≤ 1000000) (w : World) (ho : OwnersS S w (.slice (some ⟨g, o, none⟩) n cc) n) (hS : ∀ g, S g → g < w.heap.size) (hvc : CkV w vc c) :
  Calls Tryz.prog 13 #[.slice (some ⟨g, o, none⟩) n cc, .int .i64 k, vc] w fun e w' => ∃ v, e = .returned v ∧ CgF (fun g => S g ∨ (w.heap.size ≤ g ∧ g < w'.heap.size)) w' v (cosigS (seedS ((k + 1 : Nat) : Int)) k c) ∧ Below w.heap.size w w' := by
 obtain ⟨rt, rfl, hrt⟩ := hvc
 obtain ⟨A1, n1, rfl⟩ := hrt.form
 obtain ⟨b0, hg0, hc, ho0⟩ := ho.get (k + 1) hk
 have hb1 := (Below.refl w.heap.size w).alloc (Nat.le_refl _) (.cells #[.int .i64 c.num, .slice A1 c.root.length n1] 36)
 have hb0 := hb1.alloc (by simp) (.cells #[.int .i64 0, .int .i64 0, .slice none 0 0, .slice none 0 0] 47)
 have hk0 := (Blk.new w 36 [.int .i64 c.num, .slice A1 c.root.length n1]).below ((Below.refl _ _).alloc (Nat.le_refl _) (.cells #[.int .i64 0, .int .i64 0, .slice none 0 0, .slice none 0 0] 47))
 have hk1 := Blk.new (w.alloc (.cells #[.int .i64 c.num, .slice A1 c.root.length n1] 36)) 47 [.int .i64 0, .int .i64 0, .slice none 0 0, .slice none 0 0]
 rw [show (w.alloc (.cells #[.int .i64 c.num, .slice A1 c.root.length n1] 36)).heap.size = w.heap.size + 1 by simp] at hk1
 have HW := Lib.hid (And.intro hk0 (And.intro hk1 (And.intro hb0 (And.intro (ho0.chg (Chg.of_below (S := fun _ => False) hb0) (fun _ _ h => h)) (hrt.below hb0)))))
 have hcw := (hb0.cell (p := ⟨g, o + (k + 1), none⟩) hg0).trans hc
 have HCC := Lib.hid hcw
 have HMOD : Hid (c.num.tmod 16 = c.num % 16) := Lib.hid (Int.tmod_eq_emod_of_nonneg h0)
 have HBL : Hid ((bodyS tagCo c).length ≤ 1000000000) := Lib.hid (by have := bodyS_length tagCo c; have : tagCo.length = 17 := rfl; omega)
 have HBD := Lib.hid (fun (wz : World) (v : Value) (hz : CkV wz v c) => rckcosign_any v c (by omega) wz hz)
 change Hid (∀ (wz : World) (v : Value), CkV wz v c → Calls Tryz.prog 32 #[v] wz fun e w' => ∃ v', e = .returned v' ∧ Bys w' v' (bodyS tagCo c) ∧ Below wz.heap.size wz w') at HBD
 have HSN := Lib.hid (fun (b : Nat) (wz : World) (vm : Value) (z1 : OwnerS S wz b (seedS ((k + 1 : Nat) : Int))) (z2 : Bys wz vm (bodyS tagCo c)) => rosign_s S b vm (seedS ((k + 1 : Nat) : Int)) (bodyS tagCo c) (c.num % 16) (by omega) (by omega) (by rw [seedS_length]; decide) HBL.out wz z1 z2)
 have HSD : Hid (cosigS (seedS ((k + 1 : Nat) : Int)) k c = ⟨(k : Int), signS (seedS ((k + 1 : Nat) : Int)) (c.num % 16) (bodyS tagCo c)⟩) := Lib.hid rfl
 have HSL := Lib.hid hS
 have ew : IntKind.i64.wrap ((k : Int) + 1) = (k : Int) + 1 := IntWalk.i64_in _ (by omega)
 clear hb0 hb1 hk0 hk1 ho hS hrt hc hcw ho0 HBL
 generalize cosigS (seedS ((k + 1 : Nat) : Int)) k c = SD at *
 generalize signS (seedS ((k + 1 : Nat) : Int)) (c.num % 16) (bodyS tagCo c) = sg at *
 generalize bodyS tagCo c = BO at *
 generalize seedS ((k + 1 : Nat) : Int) = sd at *
 have hkn : ((k : Int) + 1) < (n : Int) := by omega
 have hkz : 0 ≤ (k : Int) + 1 := by omega
 have hktn : ((k : Int) + 1).toNat = k + 1 := by omega
 go_enter Tryz.func13, Tryz.ntmps13
 go_wp2
 refine code_at (fun w2 => Blk w2 w.heap.size 36 [.int .i64 c.num, .slice A1 c.root.length n1] ∧ Blk w2 (w.heap.size + 1) 47 [.int .i64 0, .int .i64 0, .slice none 0 0, .slice none 0 0] ∧ Below w.heap.size w w2 ∧ OwnerS S w2 b0 sd ∧ Bys w2 (.slice A1 c.root.length n1) c.root ∧ w2.cell? ⟨g, o + (k + 1), none⟩ = some (.pointer (some ⟨b0, 0, none⟩))) ⟨HW.out.1, HW.out.2.1, HW.out.2.2.1, HW.out.2.2.2.1, HW.out.2.2.2.2, HCC.out⟩ ?_
 rintro w2 ⟨k0, k1, kb, ko, kr, hc0⟩
 have H2 : Hid (Blk w2 w.heap.size 36 [.int .i64 c.num, .slice A1 c.root.length n1] ∧ Blk w2 (w.heap.size + 1) 47 [.int .i64 0, .int .i64 0, .slice none 0 0, .slice none 0 0] ∧ Below w.heap.size w w2 ∧ OwnerS S w2 b0 sd ∧ Bys w2 (.slice A1 c.root.length n1) c.root) := Lib.hid ⟨k0, k1, kb, ko, kr⟩
 have c0 := k0.cell 0 _ rfl
 have c1 := k0.cell 1 _ rfl
 have hgo : g < w2.heap.size := Nat.lt_of_lt_of_le hg0 kb.size
 clear k0 k1 kb ko kr HCC
 refine wp_region_held_drew (S := fun w' => w'.cell? ⟨w.heap.size, 0, none⟩ = some (.int .i64 c.num) ∧ w'.cell? ⟨w.heap.size, 1, none⟩ = some (.slice A1 c.root.length n1) ∧ w'.cell? ⟨g, o + (k + 1), none⟩ = some (.pointer (some ⟨b0, 0, none⟩))) (by kernel_rfl) ?_ (fun hHeld => ?_)
 ·exact ⟨c0, c1, hc0⟩
 refine ty 0 7 rfl rfl ?_; simp only [sa, sb, sc]
 refine ty 1 8 rfl rfl ?_; simp only [sa, sb, sc]
 refine ty 2 9 rfl rfl ?_; simp only [sa, sb, sc]
 refine ty 3 10 rfl rfl ?_; simp only [sa, sb, sc]
 refine ty 4 11 rfl rfl ?_; simp only [sa, sb, sc]
 refine ty 5 12 rfl rfl ?_; simp only [sa, sb, sc]
 refine ty 6 13 rfl rfl ?_; simp only [sa, sb, sc]
 refine ty 7 14 rfl rfl ?_; simp only [sa, sb, sc]
 refine ty 8 15 rfl rfl ?_; simp only [sa, sb, sc]
 refine ty 9 16 rfl rfl ?_; simp only [sa, sb, sc]
 refine rd 10 (by kernel_rfl) rfl (fun K hK => ?_)
 go_simp
 go_at_call 32
 refine (HBD.out w2.drew _ ⟨_, rfl, H2.out.2.2.2.2.below (Below.refl _ _).drew⟩).mono ?_
 rintro e w3 ⟨v3, rfl, h3, h4'⟩
 obtain ⟨A3, n3, rfl⟩ := h3.form
 have h4 : Below w2.heap.size w2 w3 := ⟨h4'.os, h4'.tape, h4'.output, h4'.size, h4'.block⟩
 have k5 := H2.out.1.below h4
 have e0 := k5.cell 0 _ rfl
 have e1 := k5.cell 1 _ rfl
 have e2 := (h4.cell (p := ⟨g, o + (k + 1), none⟩) hgo).trans hc0
 have H3 := Lib.hid (And.intro h3 (And.intro h4 (And.intro k5 (And.intro (H2.out.2.1.below h4) (H2.out.2.2.2.1.chg (Chg.of_below (S := fun _ => False) h4) (fun _ _ h => h))))))
 have hgo3 := Nat.lt_of_lt_of_le hgo h4.size
 clear h3 h4 h4' k5
 go_wp2_with fail
 refine hK.out _ _ ⟨e0, e1, e2⟩ (fun hHeld10 => ?_)
 clear hK K; try simp only [Act.put, sa, sb, sc]
 refine rd 11 (by kernel_rfl) rfl (fun K hK => ?_)
 go_simp
 go_at_call 25
 rw [HMOD.out]
 refine (HSN.out b0 w3 _ H3.out.2.2.2.2 H3.out.1).mono ?_
 rintro e w4 ⟨v4, rfl, ⟨p4, q4, rfl, h5, h6⟩, h7⟩
 obtain ⟨A4, n4, rfl⟩ := h5.rws.form
 obtain ⟨A5, n5, rfl⟩ := h6.rws.form
 have k5 := H3.out.2.2.1.below h7
 have kz := H3.out.2.2.2.1.below h7
 have i0 := k5.cell 0 _ rfl
 have i1 := k5.cell 1 _ rfl
 have i2 := (h7.cell (p := ⟨g, o + (k + 1), none⟩) hgo3).trans e2
 have z0 := kz.cell 0 _ rfl
 have z1 := kz.cell 1 _ rfl
 have z2 := kz.cell 2 _ rfl
 have z3 := kz.cell 3 _ rfl
 have y0 := kz.free 0
 have y1 := kz.free 1
 have y2 := kz.free 2
 have y3 := kz.free 3
 have hsz34 := h7.size
 have hsz23 := H3.out.2.1.size
 have hsz12 := H2.out.2.2.1.size
 have hlt2 := H2.out.2.1.lt
 have H4 := Lib.hid (And.intro h5 (And.intro h6 (And.intro kz (H2.out.2.2.1.trans ((H3.out.2.1.mono hsz12).trans (h7.mono (Nat.le_trans hsz12 hsz23)))))))
 clear h5 h6 h7 k5 kz e0 e1 e2
 go_wp2_with fail
 refine hK.out _ _ ⟨i0, i1, i2⟩ (fun hHeld11 => ?_)
 clear hK K; try simp only [Act.put, sa, sb, sc]
 refine ty 12 19 rfl rfl ?_; simp only [sa, sb, sc]
 refine rd 13 (by kernel_rfl) rfl (fun K hK => ?_)
 go_simp
 refine hK.out _ _ ⟨(far4 w4 (w.heap.size + 1) _ _ _ _ _ (show w.heap.size + 1 ≠ w.heap.size by omega)).trans i0, (far4 w4 (w.heap.size + 1) _ _ _ _ _ (show w.heap.size + 1 ≠ w.heap.size by omega)).trans i1, (far4 w4 (w.heap.size + 1) _ _ _ _ _ (show w.heap.size + 1 ≠ g by omega)).trans i2⟩ (fun hHeld13 => ?_)
 clear hK K; try simp only [Act.put, sa, sb, sc]
 refine wpAnyH_done (by kernel_rfl) ?_ _
 have hch : Chg w4 ((((w4.setCell ⟨w.heap.size + 1, 0, none⟩ (.int .i64 k)).setCell ⟨w.heap.size + 1, 1, none⟩ (.int .i64 sg.index)).setCell ⟨w.heap.size + 1, 2, none⟩ (.slice A4 sg.parts.length n4)).setCell ⟨w.heap.size + 1, 3, none⟩ (.slice A5 sg.path.length n5)) (fun k => k = w.heap.size + 1) := chg_cell (chg_cell (chg_cell (chg_cell (Chg.refl w4 _) 0 _) 1 _) 2 _) 3 _
 have hfin : Blk ((((w4.setCell ⟨w.heap.size + 1, 0, none⟩ (.int .i64 k)).setCell ⟨w.heap.size + 1, 1, none⟩ (.int .i64 sg.index)).setCell ⟨w.heap.size + 1, 2, none⟩ (.slice A4 sg.parts.length n4)).setCell ⟨w.heap.size + 1, 3, none⟩ (.slice A5 sg.path.length n5)) (w.heap.size + 1) 47 [.int .i64 k, .int .i64 sg.index, .slice A4 sg.parts.length n4, .slice A5 sg.path.length n5] := (((H4.out.2.2.1.set 0 _ (by simp)).set 1 _ (by simp)).set 2 _ (by simp)).set 3 _ (by simp)
 generalize (((w4.setCell ⟨w.heap.size + 1, 0, none⟩ (.int .i64 k)).setCell ⟨w.heap.size + 1, 1, none⟩ (.int .i64 sg.index)).setCell ⟨w.heap.size + 1, 2, none⟩ (.slice A4 sg.parts.length n4)).setCell ⟨w.heap.size + 1, 3, none⟩ (.slice A5 sg.path.length n5) = w5 at *
 have HF := Lib.hid (And.intro hch hfin)
 clear hch hfin z0 z1 z2 z3 y0 y1 y2 y3 i0 i1 i2 c0 c1
 go_wp2
 obtain ⟨h5, h6, -, h7⟩ := H4.out
 refine bodyPost_ret (v := .agg [.int .i64 k, .int .i64 sg.index, .slice A4 sg.parts.length n4, .slice A5 sg.path.length n5].toArray) ?_ ?_ ⟨_, rfl, ?_, ?_⟩
 ·exact results_cell_row Tryz.results13 _ _ (w.heap.size + 1) 47 _ (0, 0) _ rfl HF.out.2 under_cosig rfl size_cosig
 ·rfl
 ·rw [HSD.out]
  have hz := HF.out.1.size
  have hmono : ∀ g, (S g ∨ (w3.heap.size ≤ g ∧ g < w4.heap.size)) → S g ∨ (w.heap.size ≤ g ∧ g < w5.heap.size) := fun g hg => by
   rcases hg with h | h
   ·exact .inl h
   ·exact .inr ⟨by omega, by omega⟩
  have hne : ∀ g, (S g ∨ (w3.heap.size ≤ g ∧ g < w4.heap.size)) → ¬ (g = w.heap.size + 1) := fun g hg e => by
   rcases hg with h | h
   ·have := HSL.out g h; omega
   ·omega
  exact ⟨_, _, rfl, (h5.chg HF.out.1 hne).mono hmono, (h6.chg HF.out.1 hne).mono hmono⟩
 ·exact h7.trans (HF.out.1.below h7.size (fun k hk => by omega))
theorem FdJ.keep0 {d : FdD} {p : PolD} {retry : Int} {n B : Nat} (h : FdJ d p retry n B) (k : Nat) (g : CgD) : FdJ (keep0 d k g) p retry n B := by
 refine ⟨h.pol, h.re, by show (d.l.set _ _).length = n; rw [List.length_set]; exact h.len, fun x hx => h.wh x (mem_keepW.1 hx).1, ?_, h.ord, ?_, h.sm⟩
 ·show (keepW _ d.m).length ≤ _
  have := keepW_le (k : Int) d.m
  have := h.ml
  omega
 ·intro j
  show 0 ≤ (wAt (d.l.set k _) j).tries ∧ (wAt (d.l.set k _) j).tries ≤ _
  rw [wAt_set]
  split
  ·exact h.tr k
  ·exact h.tr j
theorem FdJ.more {d : FdD} {p : PolD} {retry : Int} {n B B' : Nat} (h : FdJ d p retry n B) (hb : B ≤ B') : FdJ d p retry n B' :=
 ⟨h.pol, h.re, h.len, h.wh, by have := h.ml; omega, by have := h.ord; omega, fun k => by have := h.tr k; exact ⟨this.1, by have := this.2; omega⟩, h.sm⟩

theorem FdJ.keepD {d : FdD} {p : PolD} {retry : Int} {n B : Nat} (h : FdJ d p retry n B) (k : Nat) (g : CgD) : FdJ (keepD d k g) p retry n B := by
 have h0 := h.keep0 k g
 unfold Go.Proofs.YtlkgeifmppadmaaGreat.keepD
 split
 ·exact ⟨h0.pol, h0.re, h0.len, h0.wh, h0.ml, h0.ord, h0.tr, h0.sm⟩
 ·exact h0
theorem FdJ.up {d : FdD} {p : PolD} {retry : Int} {n A B : Nat} (h : FdJ d p retry n A) (hAB : A ≤ B) : FdJ d p retry n B :=
 ⟨h.pol, h.re, h.len, h.wh, by have := h.ml; omega, by have := h.ord; omega, fun k => by have := h.tr k; exact ⟨this.1, by have := this.2; omega⟩, h.sm⟩
set_option maxRecDepth 100000 in
set_option maxHeartbeats 4000000 in
theorem requests_same (va vb : Value) (l : List (Int × Int)) (hl : l.length ≤ 1000000) (w : World) (ha : Sho w va l.length 2 (reqCells l)) (hb : Sho w vb l.length 2 (reqCells l)) :
  Calls Tryz.prog 37 #[va, vb] w fun e w' => e = .returned (.bool true) ∧ Below w.heap.size w w' := by
 obtain ⟨A, ca, rfl⟩ := ha.form
 obtain ⟨B, cb, rfl⟩ := hb.form
 have HX := Lib.hid (And.intro ha hb)
 clear ha hb
 go_enter Tryz.func37, Tryz.ntmps37
 go_wp2
 go_loopw [5] (fun v wr => ∃ i : Nat, v = .int .i64 i ∧ i ≤ l.length ∧ Hid (Below w.heap.size w wr)) (fun v _ => l.length - (intOf v).toNat)
 case atStart => exact ⟨0, rfl, Nat.zero_le _, Lib.hid (Below.refl _ _)⟩
 case round =>
  obtain ⟨i, rfl, hi, HI⟩ := hrel
  by_cases hlt : i < l.length
  ·obtain ⟨ga, oa, rfl, _, hga, hca, _, h5⟩ := HX.out.1.place (by omega)
   obtain ⟨gb, ob, rfl, _, hgb, hcb, _, h6⟩ := HX.out.2.place (by omega)
   obtain ⟨ea, eb⟩ := reqCells_at l i hlt
   have a0 := (HI.out.cell (p := ⟨ga, oa + i * 2, none⟩) hga).trans (h5 _ _ ea)
   have a1 := (HI.out.cell (p := ⟨ga, oa + (i * 2 + 1), none⟩) hga).trans (h5 _ _ eb)
   have b0 := (HI.out.cell (p := ⟨gb, ob + i * 2, none⟩) hgb).trans (h6 _ _ ea)
   have b1 := (HI.out.cell (p := ⟨gb, ob + (i * 2 + 1), none⟩) hgb).trans (h6 _ _ eb)
   rw [← Nat.add_assoc] at a1 b1
   clear h5 h6 ea eb
   generalize l[i].1 = x at *
   generalize l[i].2 = y at *
   go_wp2
   refine wp_region_held_drew (S := fun w' => w'.cell? ⟨ga, oa + i * 2, none⟩ = some (.int .i64 x) ∧ w'.cell? ⟨ga, oa + i * 2 + 1, none⟩ = some (.int .i64 y) ∧ w'.cell? ⟨gb, ob + i * 2, none⟩ = some (.int .i64 x) ∧ w'.cell? ⟨gb, ob + i * 2 + 1, none⟩ = some (.int .i64 y)) (by kernel_rfl) ?_ (fun hHeld => ?_)
   ·exact ⟨a0, a1, b0, b1⟩
   refine ty 0 17 rfl rfl ?_; simp only [sa, sb, sc]
   refine ty 1 18 rfl rfl ?_; simp only [sa, sb, sc]
   refine ty 2 19 rfl rfl ?_; simp only [sa, sb, sc]
   refine ty 3 20 rfl rfl ?_; simp only [sa, sb, sc]
   refine ty 4 21 rfl rfl ?_; simp only [sa, sb, sc]
   refine ty 5 22 rfl rfl ?_; simp only [sa, sb, sc]
   refine ty 6 23 rfl rfl ?_; simp only [sa, sb, sc]
   refine ty 7 24 rfl rfl ?_; simp only [sa, sb, sc]
   refine ty 8 25 rfl rfl ?_; simp only [sa, sb, sc]
   refine wpAnyH_done (by kernel_rfl) ?_ _
   have hb2 := HI.out.drew
   generalize wr.drew = w2 at *
   have H2 := Lib.hid hb2
   clear hb2 hHeld a0 a1 b0 b1
   go_wp2
   go_roundw
   case rel => exact ⟨i + 1, by go_num, by omega, H2⟩
   case measure => simp [intOf]; omega
  ·obtain rfl : i = l.length := by omega
   go_wp2
   go_ret
   exact ⟨rfl, HI.out⟩
theorem FdAt.wide {Z Z' : Nat → Prop} {w : World} {f : Nat} {d : FdD} (h : FdAt Z w f d) (hZ : ∀ g, Z g → Z' g) : FdAt Z' w f d := by
 obtain ⟨r, us, es, h⟩ := h
 exact ⟨r, us, es, h.wide hZ⟩
def OnZ (Z : Nat → Prop) (w w' : World) (f : Nat) (d : FdD) : Prop := FdAt (Wide Z w w') w' f d ∧ Chg w w' Z
theorem onZ_quiet {Z : Nat → Prop} {w w' : World} {f : Nat} {d : FdD} (h : FdAt Z w f d) (hb : Below w.heap.size w w') : OnZ Z w w' f d :=
 ⟨(h.below hb).wide (fun g hg => .inl hg), (Chg.refl w Z).trans (Chg.of_below (S := fun _ => False) hb) (fun _ _ h => h.elim)⟩
theorem offer_z (Z : Nat → Prop) (f : Nat) (d : FdD) (p : PolD) (retry : Int) (n K : Nat) (v : Value) (s : SgD) (now : Int) (hj : FdJ d p retry n K) (hn : n ≤ 4) (hK : K ≤ 10000) (hp : p.log.length ≤ 1000000000) (hr : s.ck.root.length ≤ 100000000) (hs : SmallSig s.sig) (w : World) (hZ : ∀ g, Z g → g < w.heap.size) (h : FdAt Z w f d) (hv : SgV w v s) :
  Calls Tryz.prog 11 #[.pointer (some ⟨f, 0, none⟩), v, .int .i64 now] w fun e w' => e = .returned (.bool (offB d s)) ∧ OnZ Z w w' f (offN d s now) := by
 have h0 := h
 obtain ⟨r, us, es, h1⟩ := h
 have hlog : d.p.log.length ≤ 1000000000 := by rw [hj.pol]; exact hp
 cases hb : offB d s with
 | false =>
  refine (offer_no Z f d r us es v s now hlog hr hs w h1 hv hb).mono ?_
  rintro e w' ⟨e1, e2⟩
  refine ⟨e1, ?_⟩
  unfold offN
  rw [hb, if_neg (by decide)]
  exact onZ_quiet h0 e2
 | true =>
  have h2 := hb
  simp only [offB, Bool.and_eq_true, Bool.not_eq_true', Bool.and_eq_false_iff, decide_eq_false_iff_not] at h2
  obtain ⟨a1, a2⟩ := h2
  refine (offer_yes Z f d r us es v s now hlog hr hs w h1 hv a1 (fun hh => by
   rcases a2 with a2 | a2
   ·rw [hh] at a2; exact absurd a2 (by decide)
   ·omega) (by have := hj.ml; omega) (by have := hj.ord; omega) (by rw [hj.len]; omega) hZ).mono ?_
  rintro e w' ⟨e1, e2, e3⟩
  refine ⟨e1, ?_⟩
  unfold offN
  rw [hb, if_pos rfl]
  exact ⟨e2, e3⟩
theorem step_z (Z : Nat → Prop) (f : Nat) (d : FdD) (p : PolD) (retry : Int) (n K : Nat) (now : Int) (hj : FdJ d p retry n K) (hn : n ≤ 4) (hK : K ≤ 10000) (hre : 1 ≤ retry ∧ retry ≤ 1000) (hnow : 0 ≤ now ∧ now ≤ 1000000000000) (w : World) (hZ : ∀ g, Z g → g < w.heap.size) (h : FdAt Z w f d) :
  Calls Tryz.prog 35 #[.pointer (some ⟨f, 0, none⟩), .int .i64 now] w fun e w' => ∃ A c, e = .returned (.slice A (reqL d now).length c) ∧ w'.ownsRow w.heap.size 115 2 (.slice A (reqL d now).length c) (reqL d now).length (reqCells (reqL d now)) ∧ OnZ Z w w' f (stepD d now) := by
 refine (step_any Z f d now hnow (by rw [hj.re]; exact hre) (by have := hj.ml; omega) (by have := hj.ord; omega) (fun x hx => by rw [hj.len]; exact hj.wh x hx) (fun k => by have := hj.tr k; exact ⟨this.1, by have := this.2; omega⟩) (by rw [hj.len]; omega) w hZ h).mono ?_
 rintro e w' ⟨v, rfl, e1, e2, e3⟩
 obtain ⟨A, c, rfl⟩ := (Sho.own e1).form
 exact ⟨A, c, rfl, e1, e2, e3⟩
theorem FdJ.repN {d : FdD} {p : PolD} {retry : Int} {n B : Nat} (h : FdJ d p retry n B) (wit size now : Int) : FdJ (repN d wit size now) p retry n (B + 1) := by
 unfold Go.Proofs.YtlkgeifmppadmaaGreat.repN
 by_cases hb : repB d wit size = true
 ·rw [if_pos hb]
  have hb2 := hb
  simp only [repB, Bool.and_eq_true, decide_eq_true_eq] at hb2
  have hk : wit.toNat < n := by rw [← h.len]; omega
  refine ⟨h.pol, h.re, by show (d.l.set _ _).length = n; rw [List.length_set]; exact h.len, ?_, ?_, ?_, ?_, h.sm⟩
  ·intro x hx
   rcases mem_insE.1 hx with rfl | hx
   ·exact ⟨by show (0 : Int) ≤ (wit.toNat : Int); omega, by show (wit.toNat : Int) < (n : Int); omega⟩
   ·exact h.wh x (mem_keepW.1 hx).1
  ·show (insE _ (keepW _ d.m)).length ≤ _
   rw [insE_length]
   have := keepW_le (wit.toNat : Int) d.m
   have := h.ml
   omega
  ·show d.ord + 1 ≤ _
   have := h.ord
   omega
  ·intro j
   have h1 := h.tr j
   have h2 := h.tr wit.toNat
   show 0 ≤ (wAt (d.l.set wit.toNat _) j).tries ∧ (wAt (d.l.set wit.toNat _) j).tries ≤ _
   rw [wAt_set]
   split
   ·exact ⟨h2.1, by have := h2.2; show (wAt d.l wit.toNat).tries ≤ _; omega⟩
   ·exact ⟨h1.1, by have := h1.2; omega⟩
 ·rw [if_neg hb]
  exact h.up (by omega)
def zCg : CgD := ⟨0, ⟨0, [], []⟩⟩
theorem zCg_small : SmallSig zCg.sig := ⟨Nat.zero_le _, Nat.zero_le _, fun i h => absurd h (Nat.not_lt_zero _), fun i h => absurd h (Nat.not_lt_zero _)⟩
theorem zCg_v (w : World) : CgV w (.agg #[.int .i64 0, .int .i64 0, .slice none 0 0, .slice none 0 0]) zCg := ⟨_, _, rfl, ⟨[], Sho.nil w 1, fun i h => absurd h (Nat.not_lt_zero _)⟩, ⟨[], Sho.nil w 1, fun i h => absurd h (Nat.not_lt_zero _)⟩⟩
theorem FdJ.anyRN {d : FdD} {p : PolD} {retry : Int} {n B : Nat} (h : FdJ d p retry n B) (wit : Int) (g : CgD) (size now : Int) : FdJ (anyRN d wit g size now) p retry n (B + 1) := by
 unfold Go.Proofs.YtlkgeifmppadmaaGreat.anyRN
 split
 ·exact (h.keepD _ _).more (by omega)
 ·exact h.repN wit size now
theorem reply_fd (Z : Nat → Prop) (f : Nat) (d : FdD) (P : PolD) (re : Int) (n K : Nat) (v : Value) (g : CgD) (wit size now : Int) (hj : FdJ d P re n K) (hn : n ≤ 4) (hK : K ≤ 10000) (hp : SmallPol P) (hs : SmallSig g.sig) (hkk : d.kept.length ≤ 1000) (w : World) (h : FdAt Z w f d) (hv : CgV w v g) (hZ : ∀ g, Z g → g < w.heap.size) :
  Calls Tryz.prog 12 #[.pointer (some ⟨f, 0, none⟩), .int .i64 wit, v, .int .i64 size, .int .i64 now] w fun e w' => e = .returned (.bool (anyRB d wit g size)) ∧ FdAt (Wide Z w w') w' f (anyRN d wit g size now) ∧ Chg w w' Z :=
 reply_any Z f d v g wit size now (by rw [hj.pol]; exact hp) hj.sm.2 hs hkk (by have := hj.ml; omega) (by have := hj.ord; omega) (by rw [hj.len]; omega) w h hv hZ
structure PI (Z D : Nat → Prop) (w : World) (f mb tb rb : Nat) (d : FdD) (e : MdD) : Prop where
 fd : FdAt Z w f d
 md : MdAt D w mb tb rb e
 zl : ∀ g, Z g → g < w.heap.size
 zm : ∀ g, Z g → ¬ MdM mb tb rb g
 zd : ∀ g, Z g → ¬ D g
theorem MdAt.lt {D : Nat → Prop} {w : World} {mb tb rb : Nat} {e : MdD} (h : MdAt D w mb tb rb e) : ∀ g, MdM mb tb rb g → g < w.heap.size := by
 obtain ⟨r, h⟩ := h
 intro g hg
 rcases hg with rfl | rfl | rfl
 ·exact h.blk.lt
 ·exact h.tbk.lt
 ·exact h.rbk.lt
theorem MdAt.dlt {D : Nat → Prop} {w : World} {mb tb rb : Nat} {e : MdD} (h : MdAt D w mb tb rb e) : ∀ g, D g → ¬ MdM mb tb rb g ∧ g < w.heap.size := by
 obtain ⟨r, h⟩ := h
 exact h.dd
theorem PI.feed {Z D : Nat → Prop} {w w' : World} {f mb tb rb : Nat} {d d' : FdD} {e : MdD} (h : PI Z D w f mb tb rb d e) (h1 : FdAt (Wide Z w w') w' f d') (hc : Chg w w' Z) : PI (Wide Z w w') D w' f mb tb rb d' e := by
 have hs := hc.size
 refine ⟨h1, h.md.chg hc (fun g hg hz => h.zm g hz hg) (fun g hg hz => h.zd g hz hg), fun g hg => ?_, fun g hg hm => ?_, fun g hg hD => ?_⟩
 ·rcases hg with hg | hg
  ·have := h.zl g hg; omega
  ·exact hg.2
 ·rcases hg with hg | hg
  ·exact h.zm g hg hm
  ·have := h.md.lt g hm; have := hg.1; omega
 ·rcases hg with hg | hg
  ·exact h.zd g hg hD
  ·have := (h.md.dlt g hD).2; have := hg.1; omega
theorem PI.model {Z D D' Y T : Nat → Prop} {w w' : World} {f mb tb rb : Nat} {d : FdD} {e e' : MdD} (h : PI Z D w f mb tb rb d e) (hm : MdAt D' w' mb tb rb e') (hD : ∀ g, D' g → D g ∨ Y g ∨ Fresh w w' g) (hc : Chg w w' T) (hT : ∀ g, T g → MdM mb tb rb g) (hY : ∀ g, Y g → ¬ Z g) : PI Z D' w' f mb tb rb d e' := by
 have hs := hc.size
 refine ⟨h.fd.chg hc (fun g hz ht => h.zm g hz (hT g ht)), hm, fun g hg => by have := h.zl g hg; omega, h.zm, fun g hg hd => ?_⟩
 rcases hD g hd with a | a | a
 ·exact h.zd g hg a
 ·exact hY g a hg
 ·have := h.zl g hg; have := a.1; omega
theorem PI.quiet {Z D : Nat → Prop} {w w' : World} {f mb tb rb : Nat} {d : FdD} {e : MdD} (h : PI Z D w f mb tb rb d e) (hb : Below w.heap.size w w') : PI Z D w' f mb tb rb d e :=
 ⟨h.fd.below hb, h.md.chg (Chg.of_below (S := fun _ => False) hb) (fun _ _ h => h) (fun _ _ h => h), fun g hg => by have := h.zl g hg; have := hb.size; omega, h.zm, h.zd⟩
theorem made_ints (n : Nat) (h : n ≤ 4) : madeCells (Value.int .i64 0).cells (n * 1) = (intsV (List.replicate n 0)).toArray := by
 obtain rfl | rfl | rfl | rfl | rfl : n = 0 ∨ n = 1 ∨ n = 2 ∨ n = 3 ∨ n = 4 := by omega
 all_goals kernel_rfl
theorem make_ints (n : Nat) (h : n ≤ 4) (w : World) : (Instr.makeSlice 22 (.int .i64 n) (.int .i64 n)).run Tryz.prog w = .ok (.slice (some ⟨w.heap.size, 0, none⟩) n n) (w.alloc (.cells (intsV (List.replicate n 0)).toArray 3)) := by
 obtain ⟨i0, hi0, hz0, hz1, hz2⟩ := info_parts (show (Tryz.prog.info? 3).map (fun i => (i.zero, i.size, i.bytes)) = some (some (.int .i64 0), 1, 8) by kernel_rfl)
 have hr := run_make (P := Tryz.prog) w 22 3 i0 _ Tryz.underlying22 hi0 hz0 .i64 .i64 n n (by omega) (Int.le_refl _) (by rw [hz2]; omega) (by omega)
 rw [hz1] at hr
 simp only [Int.toNat_natCast] at hr
 rw [made_ints n h] at hr
 exact hr
theorem Rl.start (p : PolD) (retry : Int) (n : Nat) : Rl ⟨p, retry, [], 0, List.replicate n zW, zSg, false, [], zSg, []⟩ ⟨p, retry, zSg, false, List.replicate n 0, List.replicate n 0, [], [], zSg, false, []⟩ := by
 refine ⟨rfl, rfl, rfl, rfl, by simp [zW], by simp [zW], fun k hk => ?_, rfl, rfl, ⟨List.Pairwise.nil, fun e he => absurd he (by simp)⟩, fun x hx => absurd hx (by simp), List.nodup_nil, rfl, rfl, rfl⟩
 have hk : k < n := by simpa using hk
 show (wAt (List.replicate n zW) k).kept = false
 rw [wAt_eq _ _ (by simpa using hk), List.getElem_replicate]
 rfl
theorem nd_len : ∀ (n : Nat) (l : List Int), l.Nodup → (∀ x ∈ l, 0 ≤ x ∧ x < (n : Int)) → l.length ≤ n
 | 0, l, _, h => by
  cases l with
  | nil => exact Nat.le_refl _
  | cons x l => have := h x List.mem_cons_self; omega
 | n + 1, l, hn, h => by
  have h1 := nd_len n (l.erase (n : Int)) (hn.erase _) (fun x hx => by
   have h2 := (List.Nodup.mem_erase_iff hn).1 hx
   have h3 := h x h2.2
   have h4 : x ≠ (n : Int) := h2.1
   omega)
  have h2 : l.length ≤ (l.erase (n : Int)).length + 1 := by
   rw [List.length_erase]
   split <;> omega
  omega
theorem Rl.mlen {d : FdD} {e : MdD} (h : Rl d e) : d.m.length ≤ d.l.length := by
 have h1 := nd_len d.l.length (d.m.map (fun x => x.wh)) h.nd (fun x hx => by
  obtain ⟨y, hy, rfl⟩ := List.mem_map.1 hx
  exact h.wr y hy)
 rw [List.length_map] at h1
 exact h1
theorem Rl.plen {d : FdD} {e : MdD} (h : Rl d e) : e.plans.length ≤ d.l.length := by
 rw [h.pl, List.length_map]
 exact h.mlen
set_option maxRecDepth 100000 in
set_option maxHeartbeats 4000000 in
theorem lpolicy_f (S : Nat → Prop) (n : Nat) (q : Int) (v : Value) (hn : n ≤ 10) (w : World) (ho : OwnersS S w v (n + 1)) (hS : ∀ g, S g → g < w.heap.size) :
    Calls Tryz.prog 8 #[v, .int .i64 q] w fun e w' => ∃ v', e = .returned v' ∧ PolF (fun g => S g ∨ Fresh w w' g) w' v' (polS n q) ∧ Below w.heap.size w w' := by
  obtain ⟨i0, hi0, hz0, hz1, hz2⟩ := info_parts info_bytes
  obtain ⟨A, c, rfl⟩ := ho.form
  have HS := Lib.hid hS
  clear hS
  have HO := Lib.hid ho
  obtain ⟨g, o, b0, rfl, hg, -, hcap, hc0, ho0⟩ := ho.at' 0 (by omega)
  have HP0 := Lib.hid (fun wz (hz : OwnerS (fun x => S x ∧ x < w.heap.size) wz b0 (seedS ((0 : Nat) : Int))) => rpub_s _ b0 (seedS ((0 : Nat) : Int)) wz hz)
  have HO0 := Lib.hid (ho0.mono (T := fun x => S x ∧ x < w.heap.size) (fun x hx => ⟨hx, HS.out x hx⟩))
  have hb0 := (Below.refl w.heap.size w).alloc (Nat.le_refl _) (.cells #[.slice none 0 0, .slice none 0 0, .int .i64 0] 29)
  have hk0 := Blk.new w 29 [.slice none 0 0, .slice none 0 0, .int .i64 0]
  have HW := Lib.hid (And.intro hk0 hb0)
  have hp0 := (hb0.cell (p := ⟨g, o + 0, none⟩) hg).trans hc0
  have HL0 := Lib.hid (ownerS_length (seedS ((0 : Nat) : Int)))
  clear ho ho0 hb0 hk0 hc0
  generalize hK0 : ownerS (seedS ((0 : Nat) : Int)) = K0 at *
  have HE0 : Hid (ownerS (seedS 0) = K0) := Lib.hid hK0
  clear hK0
  rw [Nat.add_zero] at hp0
  go_enter Tryz.func8, Tryz.ntmps8
  go_wp2_with fail
  refine (HP0.out _ (HO0.out.chg (Chg.of_below (S := fun _ => False) HW.out.2) (fun _ _ h => h))).mono ?_
  rintro e w' ⟨v1, rfl, h1, rfl⟩
  obtain ⟨A1, c1, rfl⟩ := h1.1.form
  have H1 := Lib.hid (show BysF (fun x => S x ∧ x < w.heap.size) (w.alloc (.cells #[.slice none 0 0, .slice none 0 0, .int .i64 0] 29)) (.slice A1 K0.length c1) K0 from h1)
  clear h1 hp0
  go_wp2
  refine code_at (fun w2 => Blk w2 w.heap.size 29 [.slice none 0 0, .slice none 0 0, .int .i64 0] ∧ Blk w2 (w.heap.size + 1) 29 [.slice A1 K0.length c1, .slice none 0 0, .int .i64 q] ∧ Below w.heap.size w w2 ∧ BysF (fun x => S x ∧ x < w.heap.size) w2 (.slice A1 K0.length c1) K0) ?_ ?_
  · exact ⟨(blk2 w _ _ _ _ _ rfl).2.1, (blk2 w _ _ _ _ _ rfl).2.2, (blk2 w _ _ _ _ _ rfl).1, H1.out.below ((Below.refl _ _).alloc (Nat.le_refl _) _)⟩
  rintro w2 ⟨k0, k1, k2, kB⟩
  have hsz2 := k1.lt
  have H2 := Lib.hid (And.intro k0 (And.intro k1 (And.intro k2 (And.intro (HO.out.below k2) kB))))
  have hwits0 : witS 0 = [] := rfl
  have HI0 : Hid (PoI S w w2 w2 (w.heap.size + 1) (.slice A1 K0.length c1) q 0) := Lib.hid ⟨Chg.refl _ _, _, k1, by rw [hwits0]; exact OwnT.nil _ _ _ _⟩
  clear k0 k1 k2 kB hwits0
  go_wp2
  go_loopw [6] (fun v6 wr => ∃ j : Nat, v6 = .int .i64 ((j : Int) + 1) ∧ j ≤ n ∧ Hid (PoI S w w2 wr (w.heap.size + 1) (.slice A1 K0.length c1) q j)) (fun v _ => n + 1 - (intOf v).toNat)
  case atStart => exact ⟨0, rfl, Nat.zero_le _, HI0⟩
  case round =>
    obtain ⟨j, rfl, hj, HJ⟩ := hrel
    clear HI0
    by_cases hlt : j < n
    · have hnl : ((j : Int) + 1) < ((n + 1 : Nat) : Int) := by omega
      obtain ⟨g', o', b, e9, hg', -, -, hcb, hob⟩ := HO.out.at' (j + 1) (by omega)
      injection e9 with e9
      injection e9 with e9a e9b
      subst e9a e9b
      obtain ⟨hch, rv, hkC, hov⟩ := HJ.out
      have hbel : Below w.heap.size w wr := H2.out.2.2.1.trans (hch.below H2.out.2.2.1.size (fun k hk => by rcases hk with e | e <;> omega))
      have hp1 := (hbel.cell (p := ⟨g, o + (j + 1), none⟩) hg).trans hcb
      have HP := Lib.hid (fun (wz : World) (hz : OwnerS (fun x => S x ∧ x < w.heap.size) wz b (seedS ((j + 1 : Nat) : Int))) => rpub_s _ b (seedS ((j + 1 : Nat) : Int)) wz hz)
      have HOB := Lib.hid ((hob.mono (T := fun x => S x ∧ x < w.heap.size) (fun x hx => ⟨hx, HS.out x hx⟩)).chg (Chg.of_below (S := fun _ => False) hbel) (fun _ _ h => h))
      have HWT : Hid (witS (j + 1) = witS j ++ [ownerS (seedS ((j + 1 : Nat) : Int))]) := Lib.hid (witS_succ j)
      have HLN := Lib.hid (ownerS_length (seedS ((j + 1 : Nat) : Int)))
      have hal : (witS j).length ≤ 1000 := by rw [witS_length]; omega
      have HJL := Lib.hid (witS_length j)
      generalize ownerS (seedS ((j + 1 : Nat) : Int)) = KN at *
      obtain ⟨A8, c8, rfl⟩ := hov.rws.form
      have r1 := hkC.cell 1 _ rfl
      have hCr := hkC.lt
      have hzr := hch.size
      obtain ⟨us, hu1, hu2⟩ := hov
      have HK := Lib.hid (And.intro hch (And.intro hkC (And.intro hbel (And.intro hu1 hu2))))
      clear hch hkC hbel hu1 hu2 hcb hob HJ
      generalize witS j = Ls at *
      have hj0 : (0 : Int) ≤ (j : Int) + 1 := by omega
      have hj1 : (j : Int) + 1 < (n : Int) + 1 := by omega
      have hjt : ((j : Int) + 1).toNat = j + 1 := by omega
      go_wp2
      go_region_law (first
        | (go_simp; go_at_call 20; refine (HP.out wr.drew (HOB.out.chg (Chg.of_below (S := fun _ => False) (Below.refl _ _).drew) (fun _ _ h => h))).mono ?_
           rintro e w5 ⟨v5, rfl, h5, rfl⟩
           obtain ⟨A5, c5, rfl⟩ := h5.1.form
           have H5 := Lib.hid (show BysF (fun x => S x ∧ x < w.heap.size) wr (.slice A5 KN.length c5) KN from ⟨h5.1, h5.2⟩)
           clear h5)
        | (refine step_append_lie rfl (.tmp 20) (.tmp 26) 27 rfl w2.heap.size 26 i0 (.slice none 0 0) 1 24 Tryz.underlying27 hi0 hz0 hz1 hz2 rfl (by decide) _ Ls.length us rfl (by first | exact World.ownsRow.alloc HK.out.2.2.2.1 _ | exact HK.out.2.2.2.1) _ 1 [.slice A5 KN.length c5] rfl (by first | exact news1 _ 26 _ rfl | exact news1_drew _ 26 _ rfl) (by unfold maxLen; omega) (by omega) (by simp; omega) ?_
           intro v3 W3 hown3 hgrow3' hlie3
           obtain ⟨A3, c3, rfl⟩ := (Sho.own hown3).form
           have hgrow3 : (wr.alloc (.cells #[.slice A5 KN.length c5] 26)).grownBy W3 (Value.slice A8 Ls.length c8).ownBlock := ⟨hgrow3'.os, hgrow3'.tape, hgrow3'.output, hgrow3'.size, hgrow3'.block⟩
           have hgr : Chg wr W3 (fun k => w2.heap.size ≤ k) := ((Chg.refl wr _).alloc _).trans (Chg.of_grown hgrow3) (fun i _ h => (World.ownsRow.lt HK.out.2.2.2.1 i h.symm).1)
           have H3 : Hid (OwnT S W3 w.heap.size w2.heap.size (.slice A3 (Ls.length + 1) c3) (Ls ++ [KN]) ∧ Blk W3 (w.heap.size + 1) 29 [.slice A1 K0.length c1, .slice A8 Ls.length c8, .int .i64 q] ∧ Chg wr W3 (fun k => w2.heap.size ≤ k)) := Lib.hid ⟨OwnT.push (w := wr) (by omega) HK.out.2.2.2.1 HK.out.2.2.2.2 H5.out.1 (fun h0 x hx => H5.out.2 h0 x hx) hown3 hgrow3, HK.out.2.1.chg hgr (by omega), hgr⟩
           have t1 := H3.out.2.1.cell 1 _ rfl
           have f1 := H3.out.2.1.free 1
           clear hown3 hgrow3 hgrow3' hlie3 hgr))
      all_goals
        have hset : Chg W3 (W3.setCell ⟨w.heap.size + 1, 1, none⟩ (.slice A3 (Ls.length + 1) c3)) (fun k => k = w.heap.size + 1) := chg_cell (Chg.refl W3 _) 1 _
        have HN : Hid (PoI S w w2 (W3.setCell ⟨w.heap.size + 1, 1, none⟩ (.slice A3 (Ls.length + 1) c3)) (w.heap.size + 1) (.slice A1 K0.length c1) q (j + 1)) := Lib.hid ⟨(HK.out.1.trans H3.out.2.2 (fun i _ h => .inr h)).trans hset (fun i _ h => .inl h), _, H3.out.2.1.set 1 _ (by simp), by rw [HWT.out]; exact H3.out.1.chg2 hset (by omega)⟩
        clear hset t1 f1
        go_wp2
        go_roundw
        case rel => exact ⟨j + 1, by go_num, by omega, HN⟩
        case measure => simp [intOf]; omega
    · obtain rfl : j = n := by omega
      have hnl : ¬ ((j : Int) + 1) < ((j + 1 : Nat) : Int) := by omega
      have hnl2 : ¬ (j : Int) + 1 < (j : Int) + 1 := by omega
      obtain ⟨hch, rv, hkC, hov⟩ := HJ.out
      obtain ⟨A8, c8, rfl⟩ := hov.rws.form
      have r0 := hkC.cell 0 _ rfl
      have r1 := hkC.cell 1 _ rfl
      have r2 := hkC.cell 2 _ rfl
      have hkZ := H2.out.1.chg hch (by have := H2.out.1.lt; omega)
      have z0 := hkZ.cell 0 _ rfl
      have z1 := hkZ.cell 1 _ rfl
      have z2 := hkZ.cell 2 _ rfl
      have y0 := hkZ.free 0
      have y1 := hkZ.free 1
      have y2 := hkZ.free 2
      have hbel : Below w.heap.size w wr := H2.out.2.2.1.trans (hch.below H2.out.2.2.1.size (fun k hk => by rcases hk with e | e <;> omega))
      have hkB := H2.out.2.2.2.2.chg hch (fun x hx e => by have h1 : x < w.heap.size := hx.2; rcases e with e | e <;> omega)
      have HK := Lib.hid (And.intro hbel (And.intro hkZ (And.intro hov hkB)))
      have HW9 := Lib.hid (witS_length j)
      clear hch hkC hov hkZ hbel hkB HJ
      generalize hWE : witS j = WS at *
      have HWE := Lib.hid hWE
      clear hWE
      go_wp2
      have hfc : Chg wr (((wr.setCell ⟨w.heap.size, 0, none⟩ (.slice A1 K0.length c1)).setCell ⟨w.heap.size, 1, none⟩ (.slice A8 WS.length c8)).setCell ⟨w.heap.size, 2, none⟩ (.int .i64 q)) (fun k => k = w.heap.size) := chg_cell (chg_cell (chg_cell (Chg.refl wr _) 0 _) 1 _) 2 _
      have hfin : Blk (((wr.setCell ⟨w.heap.size, 0, none⟩ (.slice A1 K0.length c1)).setCell ⟨w.heap.size, 1, none⟩ (.slice A8 WS.length c8)).setCell ⟨w.heap.size, 2, none⟩ (.int .i64 q)) w.heap.size 29 [.slice A1 K0.length c1, .slice A8 WS.length c8, .int .i64 q] := ((HK.out.2.1.set 0 _ (by simp)).set 1 _ (by simp)).set 2 _ (by simp)
      have hpe : polS j q = ⟨K0, WS, q⟩ := by unfold polS; rw [HE0.out, HWE.out]
      refine bodyPost_ret (v := .agg [.slice A1 K0.length c1, .slice A8 WS.length c8, .int .i64 q].toArray) ?_ ?_ ⟨_, rfl, ?_, ?_⟩
      · exact results_cell_row Tryz.results8 _ _ w.heap.size 29 _ (0, 0) _ rfl hfin under_policy rfl size_policy
      · rfl
      · rw [hpe]
        refine ⟨_, _, rfl, ?_, ?_⟩
        · exact (BysF.mono (T := fun g => S g ∨ Fresh w _ g) (HK.out.2.2.2.chg hfc (fun x hx e => by have h1 : x < w.heap.size := hx.2; have h2 : x = w.heap.size := e; omega)) (fun x hx => .inl hx.1))
        · refine (HK.out.2.2.1.foot.chg hfc (fun x hx e => pol_apart w.heap.size w2.heap.size S HS.out hsz2 x wr.heap.size hx e)).mono (fun x hx => ?_)
          have hz9 := hfc.size
          rcases hx with hx | hx
          · exact .inl hx
          · exact .inr ⟨by have := hx.1; omega, by have := hx.2; omega⟩
      · exact HK.out.1.trans (hfc.below HK.out.1.size (fun k hk => by omega))
structure AskE where
 kind : Int
 who : Int
 size : Int
 now : Int
 bad : Bool
def ArgAskE (w : World) (A : Option Addr) (l : List AskE) : Prop := ∀ k (h : k < l.length), ∃ g o, A = some ⟨g, o, none⟩ ∧ g < w.heap.size ∧ w.cell? ⟨g, o + k * 5, none⟩ = some (.int .i64 l[k].kind) ∧ w.cell? ⟨g, o + k * 5 + 1, none⟩ = some (.int .i64 l[k].who) ∧ w.cell? ⟨g, o + k * 5 + 2, none⟩ = some (.int .i64 l[k].size) ∧ w.cell? ⟨g, o + k * 5 + 3, none⟩ = some (.int .i64 l[k].now) ∧ w.cell? ⟨g, o + k * 5 + 4, none⟩ = some (.bool l[k].bad)
structure PlJ (P : PolD) (re : Int) (n i : Nat) (d : FdD) (e : MdD) : Prop where
 rl : Rl d e
 fj : FdJ d P re n i
 cu : SmallSig d.cur.sig ∧ d.cur.ck.root.length ≤ 1000000 ∧ 0 ≤ d.cur.ck.num ∧ d.cur.ck.num ≤ 100 ∧ d.cur.sig.parts.length ≤ 1000000 ∧ d.cur.sig.path.length ≤ 1000000
 dn : SmallSig d.done.sig ∧ d.done.ck.root.length ≤ 1000000 ∧ d.done.sig.parts.length ≤ 1000000 ∧ d.done.sig.path.length ≤ 1000000
 kl : d.kept.length ≤ i
 ks : ∀ g ∈ d.kept, SmallSig g.sig ∧ g.sig.parts.length ≤ 1000000 ∧ g.sig.path.length ≤ 1000000
 el : d.enough.length ≤ i
 es : ∀ g ∈ d.enough, SmallSig g.sig ∧ g.sig.parts.length ≤ 1000000 ∧ g.sig.path.length ≤ 1000000
 en : d.enough = [] → d.done = zSg
theorem PlJ.ml {P : PolD} {re : Int} {n i : Nat} {d : FdD} {e : MdD} (h : PlJ P re n i d e) : d.m.length ≤ n := by
 have := h.rl.mlen
 rw [h.fj.len] at this
 exact this
theorem PlJ.more {P : PolD} {re : Int} {n i j : Nat} {d : FdD} {e : MdD} (h : PlJ P re n i d e) (hij : i ≤ j) : PlJ P re n j d e :=
 ⟨h.rl, h.fj.more hij, h.cu, h.dn, Nat.le_trans h.kl hij, h.ks, Nat.le_trans h.el hij, h.es, h.en⟩
theorem PlJ.start (p : PolD) (re : Int) : PlJ p re p.wits.length 0 (fdNew p re) ⟨p, re, zSg, false, List.replicate p.wits.length 0, List.replicate p.wits.length 0, [], [], zSg, false, []⟩ :=
 ⟨Rl.start p re p.wits.length, fdj_new p re, ⟨⟨Nat.zero_le _, Nat.zero_le _, fun i h => absurd h (Nat.not_lt_zero _), fun i h => absurd h (Nat.not_lt_zero _)⟩, Nat.zero_le _, Int.le_refl _, by show (0 : Int) ≤ 100; decide, Nat.zero_le _, Nat.zero_le _⟩,
  ⟨⟨Nat.zero_le _, Nat.zero_le _, fun i h => absurd h (Nat.not_lt_zero _), fun i h => absurd h (Nat.not_lt_zero _)⟩, Nat.zero_le _, Nat.zero_le _, Nat.zero_le _⟩, Nat.le_refl _, fun g hg => absurd hg (by simp [fdNew]), Nat.le_refl _, fun g hg => absurd hg (by simp [fdNew]), fun _ => rfl⟩
theorem Rl.offN {d : FdD} {e : MdD} (h : Rl d e) (s : SgD) (now : Int) : Rl (offN d s now) (moffN e s now) := by
 unfold Go.Proofs.YtlkgeifmppadmaaGreat.offN moffN
 rw [h.offerB]
 by_cases hb : offB d s = true
 ·rw [if_pos hb, if_pos hb]; exact h.offer s now
 ·rw [if_neg hb, if_neg hb]; exact h
def SgOk (s : SgD) : Prop := SmallSig s.sig ∧ s.ck.root.length ≤ 1000000 ∧ 0 ≤ s.ck.num ∧ s.ck.num ≤ 100 ∧ s.sig.parts.length ≤ 1000000 ∧ s.sig.path.length ≤ 1000000
theorem PlJ.offer {P : PolD} {re : Int} {n i : Nat} {d : FdD} {e : MdD} (h : PlJ P re n i d e) (hn : n ≤ 4) (s : SgD) (hs : SgOk s) (now : Int) : PlJ P re n (i + 1) (offN d s now) (moffN e s now) := by
 refine ⟨h.rl.offN s now, h.fj.offN hn s hs.1 (by have := hs.2.1; omega) now, ?_, ?_, ?_, ?_, ?_, ?_, ?_⟩
 all_goals
  unfold Go.Proofs.YtlkgeifmppadmaaGreat.offN
  split
 ·exact hs
 ·exact h.cu
 ·exact h.dn
 ·exact h.dn
 ·exact Nat.zero_le _
 ·have := h.kl; omega
 ·exact fun g hg => absurd hg (by simp [offD])
 ·exact h.ks
 ·have := h.el; show d.enough.length ≤ _; omega
 ·have := h.el; omega
 ·exact h.es
 ·exact h.es
 ·exact h.en
 ·exact h.en
theorem stN_keeps (now : Int) (ws : List Nat) : ∀ d : FdD, (stN now d ws).cur = d.cur ∧ (stN now d ws).done = d.done ∧ (stN now d ws).kept = d.kept ∧ (stN now d ws).enough = d.enough := by
 induction ws with
 | nil => intro d; exact ⟨rfl, rfl, rfl, rfl⟩
 | cons k ws ih => intro d; have := ih (st1 now d k); exact ⟨this.1, this.2.1, this.2.2.1, this.2.2.2⟩
theorem PlJ.step {P : PolD} {re : Int} {n i : Nat} {d : FdD} {e : MdD} (h : PlJ P re n i d e) (hn : n ≤ 4) (now : Int) : PlJ P re n (i + 1) (stepD d now) (mstepD e now) := by
 obtain ⟨a1, a2, a3, a4⟩ := stN_keeps now (whoL d.m now) { d with m := d.m.drop (dueN d.m now) }
 have b1 : (stepD d now).cur = d.cur := a1
 have b2 : (stepD d now).done = d.done := a2
 have b3 : (stepD d now).kept = d.kept := a3
 have b4 : (stepD d now).enough = d.enough := a4
 have hml := h.ml
 have hdl := dueN_le d.m now
 exact ⟨(h.rl.step now).2, h.fj.step now (by omega), by rw [b1]; exact h.cu, by rw [b2]; exact h.dn, by rw [b3]; have := h.kl; omega, by rw [b3]; exact h.ks, by rw [b4]; have := h.el; omega, by rw [b4]; exact h.es, by rw [b4, b2]; exact h.en⟩
theorem PlJ.reply {P : PolD} {re : Int} {n i : Nat} {d : FdD} {e : MdD} (h : PlJ P re n i d e) (wit size now : Int) (g : CgD) (hg : SmallSig g.sig ∧ g.sig.parts.length ≤ 1000000 ∧ g.sig.path.length ≤ 1000000) : PlJ P re n (i + 1) (anyRN d wit g size now) (mrepN e wit g size now) := by
 have hk : ∀ x ∈ d.kept ++ [g], SmallSig x.sig ∧ x.sig.parts.length ≤ 1000000 ∧ x.sig.path.length ≤ 1000000 := fun x hx => by
  rcases List.mem_append.1 hx with hx | hx
  ·exact h.ks x hx
  ·rw [List.mem_singleton.1 hx]; exact hg
 have hl : (d.kept ++ [g]).length ≤ i + 1 := by rw [List.length_append, List.length_singleton]; have := h.kl; omega
 have h1 := (h.rl.reply wit size now g).2
 have h2 := h.fj.anyRN wit g size now
 revert h1 h2
 unfold Go.Proofs.YtlkgeifmppadmaaGreat.anyRN
 by_cases hh : hearB d wit g = true
 ·rw [if_pos hh]
  unfold Go.Proofs.YtlkgeifmppadmaaGreat.keepD
  by_cases hq : d.p.quorum ≤ ((d.kept.length + 1 : Nat) : Int)
  ·rw [if_pos hq]
   intro h1 h2
   exact ⟨h1, h2, h.cu, ⟨h.cu.1, h.cu.2.1, h.cu.2.2.2.2.1, h.cu.2.2.2.2.2⟩, hl, hk, hl, hk, fun e => absurd e (by simp)⟩
  ·rw [if_neg hq]
   intro h1 h2
   exact ⟨h1, h2, h.cu, h.dn, hl, hk, by have := h.el; show d.enough.length ≤ _; omega, h.es, h.en⟩
 ·rw [if_neg hh]
  unfold Go.Proofs.YtlkgeifmppadmaaGreat.repN
  split
  ·intro h1 h2
   exact ⟨h1, h2, h.cu, h.dn, by have := h.kl; show d.kept.length ≤ _; omega, h.ks, by have := h.el; show d.enough.length ≤ _; omega, h.es, h.en⟩
  ·intro h1 h2
   exact ⟨h1, h2, h.cu, h.dn, by have := h.kl; omega, h.ks, by have := h.el; omega, h.es, h.en⟩
structure PlW (S Z D : Nat → Prop) (wB w : World) (O : Value) (m f mb tb rb : Nat) (d : FdD) (e : MdD) : Prop where
 pi : PI Z D w f mb tb rb d e
 own : OwnersS S w O m
 sz : ∀ g, S g → ¬ Z g ∧ ¬ MdM mb tb rb g ∧ g < w.heap.size
 zb : ∀ g, Z g → wB.heap.size ≤ g
 bb : ∀ g, MdM mb tb rb g → wB.heap.size ≤ g
 below : Below wB.heap.size wB w
theorem PlW.feed {S Z D : Nat → Prop} {wB w w' : World} {O : Value} {m f mb tb rb : Nat} {d d' : FdD} {e : MdD} (h : PlW S Z D wB w O m f mb tb rb d e) (h1 : FdAt (Wide Z w w') w' f d') (hc : Chg w w' Z) : PlW S (Wide Z w w') D wB w' O m f mb tb rb d' e := by
 have hs := hc.size
 have hb := h.below.size
 refine ⟨h.pi.feed h1 hc, h.own.chg hc (fun g hg => (h.sz g hg).1), fun g hg => ?_, fun g hg => ?_, h.bb, h.below.trans (hc.below hb h.zb)⟩
 ·obtain ⟨a, b, c⟩ := h.sz g hg
  refine ⟨fun hz => ?_, b, by omega⟩
  rcases hz with hz | hz
  ·exact a hz
  ·have := hz.1; omega
 ·rcases hg with hg | hg
  ·exact h.zb g hg
  ·have := hg.1; omega
theorem PlW.model {S Z D D' Y T : Nat → Prop} {wB w w' : World} {O : Value} {m f mb tb rb : Nat} {d : FdD} {e e' : MdD} (h : PlW S Z D wB w O m f mb tb rb d e) (hm : MdAt D' w' mb tb rb e') (hD : ∀ g, D' g → D g ∨ Y g ∨ Fresh w w' g) (hc : Chg w w' T) (hT : ∀ g, T g → MdM mb tb rb g) (hY : ∀ g, Y g → ¬ Z g) : PlW S Z D' wB w' O m f mb tb rb d e' := by
 have hs := hc.size
 have hb := h.below.size
 exact ⟨h.pi.model hm hD hc hT hY, h.own.chg hc (fun g hg ht => (h.sz g hg).2.1 (hT g ht)), fun g hg => ⟨(h.sz g hg).1, (h.sz g hg).2.1, by have := (h.sz g hg).2.2; omega⟩, h.zb, h.bb, h.below.trans (hc.below hb (fun g hg => h.bb g (hT g hg)))⟩
theorem PlW.quiet {S Z D : Nat → Prop} {wB w w' : World} {O : Value} {m f mb tb rb : Nat} {d : FdD} {e : MdD} (h : PlW S Z D wB w O m f mb tb rb d e) (hb : Below w.heap.size w w') : PlW S Z D wB w' O m f mb tb rb d e :=
 ⟨h.pi.quiet hb, h.own.below hb, fun g hg => ⟨(h.sz g hg).1, (h.sz g hg).2.1, by have := (h.sz g hg).2.2; have := hb.size; omega⟩, h.zb, h.bb, h.below.trans (hb.mono h.below.size)⟩
theorem play_done (Z : Nat → Prop) (f : Nat) (d : FdD) (e : MdD) (P : PolD) (re : Int) (n i : Nat) (hj : PlJ P re n i d e) (hi : i ≤ 1000) (w : World) (hok : FdAt Z w f d) :
  Calls Tryz.prog 14 #[.pointer (some ⟨f, 0, none⟩)] w fun x w' => ∃ R rc Q pc T qc A c, x = .returned (.tuple #[.agg #[.int .i64 d.done.ck.num, .slice R d.done.ck.root.length rc, .int .i64 d.done.sig.index, .slice Q d.done.sig.parts.length pc, .slice T d.done.sig.path.length qc], .slice A d.enough.length c, .bool e.dh]) ∧ (Bys w' (.slice R d.done.ck.root.length rc) d.done.ck.root ∧ Rws w' (.slice Q d.done.sig.parts.length pc) d.done.sig.parts ∧ Rws w' (.slice T d.done.sig.path.length qc) d.done.sig.path) ∧ CgsV w' (.slice A d.enough.length c) d.enough ∧ Below w.heap.size w w' := by
 refine (done_any Z f d (by have := hj.el; omega) (fun g hg => (hj.es g hg).1) (by have := hj.dn.2.1; omega) hj.dn.1 w hok).mono ?_
 rintro x w' ⟨r, p, q, v, rfl, h1, h2, h3, h4, h5⟩
 have e1 : (if d.enough.length = 0 then zSg else d.done) = d.done := by
  split
  ·exact (hj.en (List.length_eq_zero_iff.1 ‹_›)).symm
  ·rfl
 rw [e1] at h1 h2 h3
 rw [e1]
 obtain ⟨R, rc, rfl⟩ := h1.form
 obtain ⟨Q, pc, rfl⟩ := h2.form
 obtain ⟨T, qc, rfl⟩ := h3.form
 obtain ⟨A, c, rfl⟩ := h4.form
 exact ⟨_, _, _, _, _, _, _, _, by rw [hj.rl.dh], ⟨h1, h2, h3⟩, h4.cgsv, h5⟩
theorem play_cur (Z : Nat → Prop) (f : Nat) (d : FdD) (e : MdD) (P : PolD) (re : Int) (n i : Nat) (hj : PlJ P re n i d e) (w : World) (hok : FdAt Z w f d) :
  Calls Tryz.prog 40 #[.pointer (some ⟨f, 0, none⟩)] w fun x w' => ∃ R rc Q pc T qc, x = .returned (.tuple #[.agg #[.int .i64 d.cur.ck.num, .slice R d.cur.ck.root.length rc, .int .i64 d.cur.sig.index, .slice Q d.cur.sig.parts.length pc, .slice T d.cur.sig.path.length qc], .bool e.has]) ∧ (Bys w' (.slice R d.cur.ck.root.length rc) d.cur.ck.root ∧ Rws w' (.slice Q d.cur.sig.parts.length pc) d.cur.sig.parts ∧ Rws w' (.slice T d.cur.sig.path.length qc) d.cur.sig.path) ∧ Below w.heap.size w w' := by
 refine (current_any Z f d (by have := hj.cu.2.1; omega) hj.cu.1 w hok).mono ?_
 rintro x w' ⟨v, rfl, ⟨r, p, q, rfl, h1, h2, h3⟩, h5⟩
 obtain ⟨R, rc, rfl⟩ := h1.1.form
 obtain ⟨Q, pc, rfl⟩ := h2.rws.form
 obtain ⟨T, qc, rfl⟩ := h3.rws.form
 exact ⟨_, _, _, _, _, _, by rw [hj.rl.has], ⟨h1.1, h2.rws, h3.rws⟩, h5⟩
theorem Rl.trs {d : FdD} {e : MdD} (h : Rl d e) {B : Int} (ht : TrOk d.l B) (j : Nat) : 0 ≤ e.tr.getD j 0 ∧ e.tr.getD j 0 ≤ B := by
 rw [h.tr_at]
 exact ht j
theorem Rl.pwh {d : FdD} {e : MdD} (h : Rl d e) : ∀ x ∈ e.plans, 0 ≤ x.2 ∧ x.2 < (e.th.length : Int) := fun x hx => by
 rw [h.pl] at hx
 obtain ⟨y, hy, rfl⟩ := List.mem_map.1 hx
 rw [h.th_len]
 exact h.wr y hy
theorem play_offer {S Z D : Nat → Prop} {wB w : World} {O : Value} {m f mb tb rb : Nat} {d : FdD} {e : MdD} {P : PolD} {re : Int} {n i : Nat} (hj : PlJ P re n i d e) (hn : n ≤ 4) (hi : i ≤ 100) (hp : SmallPol P) (s : SgD) (hs : SgOk s) (now : Int) (v : Value) (h : PlW S Z D wB w O m f mb tb rb d e) (hv : SgV w v s) :
  Calls Tryz.prog 11 #[.pointer (some ⟨f, 0, none⟩), v, .int .i64 now] w fun x w' => x = .returned (.bool (offB d s)) ∧ PlW S (Wide Z w w') D wB w' O m f mb tb rb (offN d s now) e ∧ Chg w w' Z := by
 refine (offer_z Z f d P re n i v s now hj.fj hn (by omega) hp.1 (by have := hs.2.1; omega) hs.1 w h.pi.zl h.pi.fd hv).mono ?_
 rintro x w' ⟨rfl, h1, h2⟩
 exact ⟨rfl, h.feed h1 h2, h2⟩
theorem play_step {S Z D : Nat → Prop} {wB w : World} {O : Value} {m f mb tb rb : Nat} {d : FdD} {e : MdD} {P : PolD} {re : Int} {n i : Nat} (hj : PlJ P re n i d e) (hn : n ≤ 4) (hi : i ≤ 100) (hre : 1 ≤ re ∧ re ≤ 1000) (now : Int) (hnow : 0 ≤ now ∧ now ≤ 1000000000000) (h : PlW S Z D wB w O m f mb tb rb d e) :
  Calls Tryz.prog 35 #[.pointer (some ⟨f, 0, none⟩), .int .i64 now] w fun x w' => ∃ A c, x = .returned (.slice A (reqL d now).length c) ∧ w'.ownsRow w.heap.size 115 2 (.slice A (reqL d now).length c) (reqL d now).length (reqCells (reqL d now)) ∧ PlW S (Wide Z w w') D wB w' O m f mb tb rb (stepD d now) e ∧ Chg w w' Z := by
 refine (step_z Z f d P re n i now hj.fj hn (by omega) hre hnow w h.pi.zl h.pi.fd).mono ?_
 rintro x w' ⟨A, c, rfl, h0, h1, h2⟩
 exact ⟨A, c, rfl, h0, h.feed h1 h2, h2⟩
theorem play_reply {S Z D : Nat → Prop} {wB w : World} {O : Value} {m f mb tb rb : Nat} {d : FdD} {e : MdD} {P : PolD} {re : Int} {n i : Nat} (hj : PlJ P re n i d e) (hn : n ≤ 4) (hi : i ≤ 100) (hp : SmallPol P) (g : CgD) (hg : SmallSig g.sig) (wit size now : Int) (v : Value) (h : PlW S Z D wB w O m f mb tb rb d e) (hv : CgV w v g) :
  Calls Tryz.prog 12 #[.pointer (some ⟨f, 0, none⟩), .int .i64 wit, v, .int .i64 size, .int .i64 now] w fun x w' => x = .returned (.bool (anyRB d wit g size)) ∧ PlW S (Wide Z w w') D wB w' O m f mb tb rb (anyRN d wit g size now) e ∧ Chg w w' Z := by
 refine (reply_fd Z f d P re n i v g wit size now hj.fj hn (by omega) hp hg (by have := hj.kl; omega) w h.pi.fd hv h.pi.zl).mono ?_
 rintro x w' ⟨rfl, h1, h2⟩
 exact ⟨rfl, h.feed h1 h2, h2⟩
theorem play_moffer {S Z D Y : Nat → Prop} {wB w : World} {O : Value} {m f mb tb rb : Nat} {d d' : FdD} {e : MdD} {P : PolD} {re : Int} {n i : Nat} (hj : PlJ P re n i d e) (hn : n ≤ 4) (hp : SmallPol P) (s : SgD) (hs : SgOk s) (now : Int) (v : Value) (h : PlW S Z D wB w O m f mb tb rb d' e) (hv : SgF Y w v s) (hY : ∀ g, Y g → ¬ Z g ∧ ¬ MdM mb tb rb g ∧ g < w.heap.size) :
  Calls Tryz.prog 36 #[.pointer (some ⟨mb, 0, none⟩), v, .int .i64 now] w fun x w' => x = .returned (.bool (offB d s)) ∧ (∃ D', PlW S Z D' wB w' O m f mb tb rb d' (moffN e s now)) ∧ Chg w w' (MdM mb tb rb) := by
 refine (moffer_any D Y mb tb rb e v s now (by rw [hj.rl.p, hj.fj.pol]; exact hp.1) (by have := hs.2.1; omega) hs.1 (by rw [hj.rl.tr_len, hj.rl.th_len]) (by rw [hj.rl.th_len, hj.fj.len]; omega) w h.pi.md hv (fun g hg => (hY g hg).2)).mono ?_
 rintro x w' ⟨rfl, D', h1, h2, h3⟩
 have hT : ∀ g, (g = mb ∨ g = rb) → MdM mb tb rb g := fun g hg => by
  rcases hg with hg | hg
  ·exact .inl hg
  ·exact .inr (.inr hg)
 exact ⟨by rw [hj.rl.offerB], ⟨D', h.model h1 h2 h3 hT (fun g hg => (hY g hg).1)⟩, h3.mono (fun g _ hg => hT g hg)⟩
theorem play_mstep {S Z D : Nat → Prop} {wB w : World} {O : Value} {m f mb tb rb : Nat} {d d' : FdD} {e : MdD} {P : PolD} {re : Int} {n i : Nat} (hj : PlJ P re n i d e) (hn : n ≤ 4) (hi : i ≤ 100) (hre : 1 ≤ re ∧ re ≤ 1000) (now : Int) (hnow : 0 ≤ now ∧ now ≤ 1000000000000) (h : PlW S Z D wB w O m f mb tb rb d' e) :
  Calls Tryz.prog 38 #[.pointer (some ⟨mb, 0, none⟩), .int .i64 now] w fun x w' => ∃ A c, x = .returned (.slice A (reqL d now).length c) ∧ w'.ownsRow w.heap.size 115 2 (.slice A (reqL d now).length c) (reqL d now).length (reqCells (reqL d now)) ∧ (∃ D', PlW S Z D' wB w' O m f mb tb rb d' (mstepD e now)) ∧ Chg w w' (MdM mb tb rb) := by
 have hpl := hj.rl.plen
 rw [hj.fj.len] at hpl
 refine (mstep_any D mb tb rb e now hnow (by rw [hj.rl.retry, hj.fj.re]; exact hre) (by omega) (by rw [hj.rl.tr_len, hj.rl.th_len]) (by rw [hj.rl.th_len, hj.fj.len]; omega) hj.rl.pwh (fun j => by have := hj.rl.trs hj.fj.tr j; exact ⟨this.1, by have := this.2; omega⟩) w h.pi.md).mono ?_
 rintro x w' ⟨v, rfl, h0, ⟨D', h1, h2⟩, h3⟩
 have hT : ∀ g, (g = mb ∨ g = rb) → MdM mb tb rb g := fun g hg => by
  rcases hg with hg | hg
  ·exact .inl hg
  ·exact .inr (.inr hg)
 rw [(hj.rl.step now).1] at h0
 obtain ⟨A, c, rfl⟩ := (Sho.own h0).form
 exact ⟨A, c, rfl, h0, ⟨D', h.model (Y := fun _ => False) h1 (fun g hg => by rcases h2 g hg with a | a; exact .inl a; exact .inr (.inr a)) h3 hT (fun g hg => hg.elim)⟩, h3.mono (fun g _ hg => hT g hg)⟩
theorem play_mreply {S Z D Y : Nat → Prop} {wB w : World} {O : Value} {m f mb tb rb : Nat} {d d' : FdD} {e : MdD} {P : PolD} {re : Int} {n i : Nat} (hj : PlJ P re n i d e) (hn : n ≤ 4) (hi : i ≤ 100) (hp : SmallPol P) (g : CgD) (hg : SmallSig g.sig) (wit size now : Int) (v : Value) (h : PlW S Z D wB w O m f mb tb rb d' e) (hv : CgF Y w v g) (hY : ∀ g, Y g → ¬ Z g ∧ ¬ MdM mb tb rb g ∧ g < w.heap.size) :
  Calls Tryz.prog 39 #[.pointer (some ⟨mb, 0, none⟩), .int .i64 wit, v, .int .i64 size, .int .i64 now] w fun x w' => x = .returned (.bool (anyRB d wit g size)) ∧ (∃ D', PlW S Z D' wB w' O m f mb tb rb d' (mrepN e wit g size now)) ∧ Chg w w' (MdM mb tb rb) := by
 have hpl := hj.rl.plen
 rw [hj.fj.len] at hpl
 refine (mreply_any D Y mb tb rb e v g wit size now (by rw [hj.rl.p, hj.fj.pol]; exact hp) (by rw [hj.rl.cur]; have := hj.cu.2.1; omega) hg (by rw [hj.rl.kept]; have := hj.kl; omega) (by omega) w h.pi.md hv (fun g hg => (hY g hg).2)).mono ?_
 rintro x w' ⟨rfl, D', h1, h2, h3⟩
 have hT : ∀ g, (g = mb ∨ g = tb) → MdM mb tb rb g := fun g hg => by
  rcases hg with hg | hg
  ·exact .inl hg
  ·exact .inr (.inl hg)
 exact ⟨by rw [(hj.rl.reply wit size now g).1], ⟨D', h.model h1 h2 h3 hT (fun g hg => (hY g hg).1)⟩, h3.mono (fun g _ hg => hT g hg)⟩
theorem keep_cell {w w' : World} (hb : Below w.heap.size w w') {a : Addr} {u : Value} (h : w.cell? a = some u) : w'.cell? a = some u := (hb.cell (World.block_lt_of_cell? w a h)).trans h
theorem sign_ok (seed : List UInt8) (ix : Int) (h0 : 0 ≤ ix) (h1 : ix < 16) (msg : List UInt8) : SmallSig (signS seed ix msg) ∧ (signS seed ix msg).parts.length ≤ 1000000 ∧ (signS seed ix msg).path.length ≤ 1000000 := by
 have e3 : (signS seed ix msg).parts.length = 64 := partsS_length seed ix msg
 have e4 : (signS seed ix msg).path.length = 4 := sigPath_length seed ix 4
 exact ⟨small_of seed ix h0 h1 msg, by omega, by omega⟩
theorem SgOk.of (z : Int) (h0 : 0 ≤ z) (h1 : z ≤ 30) : SgOk (signedS (seedS ((0 : Nat) : Int)) z) := by
 obtain ⟨a, b, c⟩ := sign_ok (seedS ((0 : Nat) : Int)) (z % 16) (by omega) (by omega) (bodyS tagCk ⟨z, hashS z⟩)
 exact ⟨a, by show (hashS z).length ≤ _; rw [hashS_length]; decide, h0, by show z ≤ 100; omega, b, c⟩
def mCells0 (pl pw : Value) (q re : Int) (tb rb n : Nat) : List Value := [pl, pw, .int .i64 q, .int .i64 re, .int .i64 0, .slice none 0 0, .int .i64 0, .slice none 0 0, .slice none 0 0, .bool false, .slice (some ⟨tb, 0, none⟩) n n, .slice (some ⟨rb, 0, none⟩) n n, .slice none 0 0, .slice none 0 0, .int .i64 0, .slice none 0 0, .int .i64 0, .slice none 0 0, .slice none 0 0, .bool false, .slice none 0 0]
theorem mk_model {D : Nat → Prop} {w : World} {pl pw : Value} {tb rb n : Nat} {P : PolD} {re : Int} (h1 : BysF D w pl P.log) (h2 : RwsF D w pw P.wits) (h3 : Blk w tb 3 (intsV (List.replicate n 0))) (h4 : Blk w rb 3 (intsV (List.replicate n 0))) (hne : tb ≠ rb) (hD : ∀ g, D g → g ≠ tb ∧ g ≠ rb ∧ g < w.heap.size) :
  MdAt D (w.alloc (.cells (mCells0 pl pw P.quorum re tb rb n).toArray 85)) w.heap.size tb rb ⟨P, re, zSg, false, List.replicate n 0, List.replicate n 0, [], [], zSg, false, []⟩ := by
 have e0 : mdCells tb rb ⟨P, re, zSg, false, List.replicate n 0, List.replicate n 0, [], [], zSg, false, []⟩ ⟨pl, pw, .slice none 0 0, .slice none 0 0, .slice none 0 0, .slice none 0 0, .slice none 0 0, .slice none 0 0, .slice none 0 0, .slice none 0 0, .slice none 0 0⟩ = mCells0 pl pw P.quorum re tb rb n := by
  simp only [mdCells, mCells0, List.length_replicate]
  rfl
 rw [← e0]
 have hb := (Below.refl w.heap.size w).alloc (Nat.le_refl _) (.cells (mdCells tb rb ⟨P, re, zSg, false, List.replicate n 0, List.replicate n 0, [], [], zSg, false, []⟩ ⟨pl, pw, .slice none 0 0, .slice none 0 0, .slice none 0 0, .slice none 0 0, .slice none 0 0, .slice none 0 0, .slice none 0 0, .slice none 0 0, .slice none 0 0⟩).toArray 85)
 have l3 := h3.lt
 have l4 := h4.lt
 have nb : ∀ W : World, BysF D W (.slice none 0 0) [] := fun W => ⟨Sho.nil W 1, fun h => absurd h (Nat.not_lt_zero _)⟩
 have nr : ∀ W : World, RwsF D W (.slice none 0 0) [] := fun W => ⟨[], Sho.nil W 1, fun h => absurd h (Nat.not_lt_zero _), fun i h => absurd h (Nat.not_lt_zero _)⟩
 have nc : ∀ W : World, CgsP D W (.slice none 0 0) [] := fun W => ⟨[], ShoP.nil D W 4, CgRow.nil D W⟩
 refine ⟨⟨pl, pw, .slice none 0 0, .slice none 0 0, .slice none 0 0, .slice none 0 0, .slice none 0 0, .slice none 0 0, .slice none 0 0, .slice none 0 0, .slice none 0 0⟩, Blk.new w _ _, h3.below hb, h4.below hb, ⟨h1.below hb, h2.below hb, nb _, nr _, nr _, nc _, ShoP.nil D _ 2, nb _, nr _, nr _, nc _⟩, fun g hg => ⟨fun hm => ?_, ?_⟩, by omega, by omega, hne⟩
 ·obtain ⟨a, b, c⟩ := hD g hg
  rcases hm with e | e | e
  ·omega
  ·exact a e
  ·exact b e
 ·have := (hD g hg).2.2; have := hb.size; omega
theorem plw_start {w w1 w2 w3 W : World} {O : Value} {m f mb tb rb : Nat} {Z D : Nat → Prop} {d0 : FdD} {md0 : MdD} (hO : OwnersS (fun g => w.heap.size ≤ g ∧ g < w1.heap.size) w1 O m) (hb01 : Below w.heap.size w w1) (hb12 : Below w1.heap.size w1 w2) (hb23 : Below w2.heap.size w2 w3) (hf : FdAt Z w3 f d0) (hz : ∀ g, Z g → w2.heap.size ≤ g ∧ g < w3.heap.size) (hb : Below w3.heap.size w3 W) (hm : MdAt D W mb tb rb md0) (hM : ∀ g, MdM mb tb rb g → w3.heap.size ≤ g) (hD : ∀ g, D g → (w.heap.size ≤ g ∧ g < w1.heap.size) ∨ w3.heap.size ≤ g) : PlW (fun g => w.heap.size ≤ g ∧ g < w1.heap.size) Z D w W O m f mb tb rb d0 md0 := by
 have s0 := hb01.size
 have s1 := hb12.size
 have s2 := hb23.size
 have s3 := hb.size
 refine ⟨⟨hf.below hb, hm, fun g hg => ?_, fun g hg h => ?_, fun g hg h => ?_⟩, ((hO.below hb12).below hb23).below hb, fun g hg => ⟨fun h => ?_, fun h => ?_, ?_⟩, fun g hg => ?_, fun g hg => ?_, ((hb01.trans (hb12.mono s0)).trans (hb23.mono (by omega))).trans (hb.mono (by omega))⟩
 ·have := hz g hg; omega
 ·have := hz g hg; have := hM g h; omega
 ·have := hz g hg
  rcases hD g h with a | a
  ·omega
  ·omega
 ·have := hz g h; have := hg.2; omega
 ·have := hM g h; have := hg.2; omega
 ·have := hg.2; omega
 ·have := hz g hg; omega
 ·have := hM g hg; omega
end Go.Proofs.YtlkgeifmppadmaaGreat
