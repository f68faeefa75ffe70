/- The feeder's plain law: what an offer and a step make of it. No walk. The feeder as the laws meet it: each of its steps, with what the law keeps of it. The law's known. The law's cosignatures. FeederAsks, its plain law: what the feeder makes of its rounds. No walk. The feeder's Reply, where a cosignature is kept. The law FeederOffers: what a round holds. No walk. The law's requests: two rows that show the same. Two feeders beside each other, as the laws meet them. Conditions: as each theorem states them. -/
import Derived.Test.YtlkgeifmppadmaaGreatKp
import Derived.Test.YtlkgeifmppadmaaGreatKl
import Derived.Test.YtlkgeifmppadmaaGreatKo
import Derived.Test.YtlkgeifmppadmaaGreatKn
namespace Go.Proofs.YtlkgeifmppadmaaGreat
open Go.RowKit
set_option linter.unusedVariables false
set_option linter.unusedSimpArgs false

theorem mem_insE {x y : Ent} {m : List Ent} : y ∈ insE x m ↔ y = x ∨ y ∈ m := by
  have := (insE_perm x m).mem_iff (a := y)
  rw [this]
  simp [or_comm]
theorem mem_keepW {what : Int} {y : Ent} {m : List Ent} : y ∈ keepW what m ↔ y ∈ m ∧ y.wh ≠ what := by simp [keepW]
theorem countP_insE (p : Ent → Bool) (x : Ent) (m : List Ent) : (insE x m).countP p = m.countP p + (if p x then 1 else 0) := by
  rw [(insE_perm x m).countP_eq, List.countP_append]
  simp [List.countP_cons]
theorem countP_keepW (p : Ent → Bool) (what : Int) (m : List Ent) (h : ∀ x ∈ m, p x = true → x.wh ≠ what) : (keepW what m).countP p = m.countP p := by
  unfold keepW
  rw [List.countP_filter]
  apply List.countP_congr
  intro x hx
  by_cases hp : p x = true
  · simp [hp, h x hx hp]
  · simp [hp]
/-- All that is planned behind an offer is planned for now, each witness once. -/
theorem offM_all (m : List Ent) (ord now : Int) (hm : ∀ x ∈ m, 0 ≤ x.wh) : ∀ i : Nat, (∀ x ∈ offM m ord now i, 0 ≤ x.wh ∧ ((x.wh < (i : Int) ∧ x.tm = now) ∨ (x ∈ m ∧ (i : Int) ≤ x.wh))) ∧ (offM m ord now i).countP (fun x => decide (x.wh < (i : Int))) = i
  | 0 => ⟨fun x hx => ⟨hm x hx, .inr ⟨hx, hm x hx⟩⟩, by
      rw [List.countP_eq_zero]
      intro x hx
      have := hm x hx
      simp; omega⟩
  | i + 1 => by
    obtain ⟨h1, h2⟩ := offM_all m ord now hm i
    have hk : ∀ x ∈ keepW (i : Int) (offM m ord now i), 0 ≤ x.wh ∧ ((x.wh < (i : Int) ∧ x.tm = now) ∨ (x ∈ m ∧ (i : Int) + 1 ≤ x.wh)) := fun x hx => by
      obtain ⟨a, b⟩ := mem_keepW.1 hx
      obtain ⟨c, e⟩ := h1 x a
      refine ⟨c, ?_⟩
      rcases e with e | e
      · exact .inl e
      · exact .inr ⟨e.1, by have := e.2; omega⟩
    constructor
    · intro x hx
      rcases mem_insE.1 hx with rfl | hx
      · exact ⟨by show (0 : Int) ≤ (i : Int); omega, .inl ⟨by show (i : Int) < ((i + 1 : Nat) : Int); omega, rfl⟩⟩
      · obtain ⟨a, b⟩ := hk x hx
        refine ⟨a, ?_⟩
        rcases b with b | b
        · exact .inl ⟨by have := b.1; omega, b.2⟩
        · exact .inr ⟨b.1, by have := b.2; omega⟩
    · show (insE _ (keepW (i : Int) (offM m ord now i))).countP _ = _
      rw [countP_insE]
      have e1 : (keepW (i : Int) (offM m ord now i)).countP (fun x => decide (x.wh < ((i + 1 : Nat) : Int))) = (keepW (i : Int) (offM m ord now i)).countP (fun x => decide (x.wh < (i : Int))) := by
        apply List.countP_congr
        intro x hx
        have := (mem_keepW.1 hx).2
        simp only [decide_eq_true_eq]
        omega
      rw [e1, countP_keepW _ _ _ (fun x hx hp => by simp at hp; omega), h2, if_pos (by simp; omega)]
theorem offM_due (m : List Ent) (ord now : Int) (k : Nat) (hm : ∀ x ∈ m, 0 ≤ x.wh ∧ x.wh < (k : Int)) : (∀ x ∈ offM m ord now k, 0 ≤ x.wh ∧ x.wh < (k : Int) ∧ x.tm = now) ∧ (offM m ord now k).length = k := by
  obtain ⟨h1, h2⟩ := offM_all m ord now (fun x hx => (hm x hx).1) k
  have h3 : ∀ x ∈ offM m ord now k, 0 ≤ x.wh ∧ x.wh < (k : Int) ∧ x.tm = now := fun x hx => by
    obtain ⟨a, b⟩ := h1 x hx
    rcases b with b | b
    · exact ⟨a, b.1, b.2⟩
    · have := (hm x b.1).2; have := b.2; omega
  refine ⟨h3, ?_⟩
  have h4 : (offM m ord now k).countP (fun x => decide (x.wh < (k : Int))) = (offM m ord now k).length := by
    rw [List.countP_eq_length]
    intro x hx
    simp [(h3 x hx).2.1]
  rw [← h4, h2]
theorem takeWhile_all {α : Type} (p : α → Bool) : ∀ l : List α, (∀ x ∈ l, p x = true) → l.takeWhile p = l
  | [], _ => rfl
  | x :: l, h => by
    rw [List.takeWhile_cons, if_pos (h x (by simp)), takeWhile_all p l (fun y hy => h y (List.mem_cons_of_mem _ hy))]
/-- The step behind an offer asks all. -/
theorem off_step (d : FdD) (s : SgD) (now : Int) (hm : ∀ x ∈ d.m, 0 ≤ x.wh ∧ x.wh < (d.l.length : Int)) : (reqL (offD d s now) now).length = d.l.length := by
  obtain ⟨h1, h2⟩ := offM_due d.m d.ord now d.l.length hm
  have e : dueL (offD d s now).m now = offM d.m d.ord now d.l.length := takeWhile_all _ _ (fun x hx => by simp [(h1 x hx).2.2])
  simp only [reqL, whoL, List.length_map]
  rw [e, h2]
theorem stN_wh (now : Int) (n : Nat) (ws : List Nat) : ∀ d : FdD, (∀ x ∈ d.m, 0 ≤ x.wh ∧ x.wh < (n : Int)) → (∀ k ∈ ws, k < n) → ∀ x ∈ (stN now d ws).m, 0 ≤ x.wh ∧ x.wh < (n : Int) := by
  induction ws with
  | nil => intro d h _; exact h
  | cons k ws ih =>
    intro d h hw
    refine ih (st1 now d k) (fun x hx => ?_) (fun j hj => hw j (List.mem_cons_of_mem _ hj))
    rcases mem_insE.1 hx with rfl | hx
    · have := hw k (by simp)
      exact ⟨by show (0 : Int) ≤ (k : Int); omega, by show (k : Int) < (n : Int); omega⟩
    · exact h x (mem_keepW.1 hx).1
/-- What the law keeps of its feeder. -/
structure FdJ (d : FdD) (p : PolD) (retry : Int) (n : Nat) (B : Nat) : Prop where
  pol : d.p = p
  re : d.retry = retry
  len : d.l.length = n
  wh : ∀ x ∈ d.m, 0 ≤ x.wh ∧ x.wh < (n : Int)
  ml : d.m.length ≤ 8 * B
  ord : d.ord ≤ 8 * (B : Int)
  tr : TrOk d.l (8 * (B : Int))
  sm : SmallSig d.cur.sig ∧ d.cur.ck.root.length ≤ 100000000
theorem tr_rst (l : List WtD) : TrOk (l.map rst) 0 := fun k => by
  unfold wAt
  rw [List.getD_eq_getElem?_getD, List.getElem?_map]
  cases l[k]? with
  | none => exact ⟨Int.le_refl _, Int.le_refl _⟩
  | some x => exact ⟨Int.le_refl _, Int.le_refl _⟩
theorem fdj_new (p : PolD) (retry : Int) : FdJ (fdNew p retry) p retry p.wits.length 0 := by
  refine ⟨rfl, rfl, by simp [fdNew], fun x hx => by simp [fdNew] at hx, by simp [fdNew], by simp [fdNew], fun k => ?_, ⟨⟨Nat.zero_le _, Nat.zero_le _, fun i h => absurd h (Nat.not_lt_zero _), fun i h => absurd h (Nat.not_lt_zero _)⟩, Nat.zero_le _⟩⟩
  show 0 ≤ (wAt (List.replicate p.wits.length ⟨0, 0, false⟩) k).tries ∧ _
  have e : (wAt (List.replicate p.wits.length ⟨0, 0, false⟩) k).tries = 0 := by
    unfold wAt
    rw [List.getD_eq_getElem?_getD, List.getElem?_replicate]
    split <;> rfl
  rw [show (fdNew p retry).l = List.replicate p.wits.length ⟨0, 0, false⟩ from rfl, e]
  exact ⟨Int.le_refl _, by omega⟩
theorem FdJ.offer {d : FdD} {p : PolD} {retry : Int} {n B : Nat} (h : FdJ d p retry n B) (hn : n ≤ 4) (s : SgD) (hs : SmallSig s.sig) (hr : s.ck.root.length ≤ 100000000) (now : Int) : FdJ (offD d s now) p retry n (B + 1) := by
  obtain ⟨h1, h2⟩ := offM_due d.m d.ord now n h.wh
  have e : (offD d s now).m = offM d.m d.ord now n := by show offM d.m d.ord now d.l.length = _; rw [h.len]
  refine ⟨h.pol, h.re, by show (d.l.map rst).length = n; rw [List.length_map, h.len], by rw [e]; exact fun x hx => ⟨(h1 x hx).1, (h1 x hx).2.1⟩, by rw [e, h2]; omega, ?_, ?_, ⟨hs, hr⟩⟩
  · show ordN d.ord d.l.length ≤ _
    rw [ordN_eq, h.len]
    have := h.ord
    omega
  · intro k
    have := tr_rst d.l k
    exact ⟨this.1, by have := this.2; show (wAt (d.l.map rst) k).tries ≤ _; omega⟩
theorem who_lt {d : FdD} {n : Nat} (h : ∀ x ∈ d.m, 0 ≤ x.wh ∧ x.wh < (n : Int)) (now : Int) : ∀ k ∈ whoL d.m now, k < n := fun k hk => by
  simp only [whoL, List.mem_map] at hk
  obtain ⟨x, hx, rfl⟩ := hk
  have := h x ((List.takeWhile_prefix _).subset hx)
  omega
theorem FdJ.step {d : FdD} {p : PolD} {retry : Int} {n B : Nat} (h : FdJ d p retry n B) (now : Int) (hq : dueN d.m now ≤ 8) : FdJ (stepD d now) p retry n (B + 1) := by
  have hw : (whoL d.m now).length ≤ 8 := by simp only [whoL, List.length_map]; exact hq
  have hd : (d.m.drop (dueN d.m now)).length ≤ d.m.length := by rw [List.length_drop]; omega
  refine ⟨by rw [stepD, stN_p]; exact h.pol, by rw [stepD, stN_retry]; exact h.re, by rw [stepD, stN_l]; exact h.len, ?_, ?_, ?_, ?_, ?_⟩
  · exact stN_wh now n _ _ (fun x hx => h.wh x (List.mem_of_mem_drop hx)) (who_lt h.wh now)
  · have := stN_m now (whoL d.m now) { d with m := d.m.drop (dueN d.m now) }
    have h2 := h.ml
    show (stN now _ _).m.length ≤ _
    have h3 : ({ d with m := d.m.drop (dueN d.m now) } : FdD).m.length ≤ d.m.length := hd
    omega
  · show (stN now _ _).ord ≤ _
    rw [stN_ord]
    have h2 := h.ord
    show d.ord + _ ≤ _
    omega
  · have := stN_tr now (whoL d.m now) { d with m := d.m.drop (dueN d.m now) } (8 * (B : Int)) h.tr
    intro k
    have h2 := this k
    exact ⟨h2.1, by have := h2.2; show (wAt (stN now _ _).l k).tries ≤ _; omega⟩
  · have e : ∀ (ws : List Nat) (d : FdD), (stN now d ws).cur = d.cur := fun ws => by
      induction ws with
      | nil => intro d; rfl
      | cons k ws ih => intro d; show (stN now (st1 now d k) ws).cur = _; rw [ih]; rfl
    have e2 : (stepD d now).cur = d.cur := e _ _
    rw [e2]
    exact h.sm
theorem step_has (d : FdD) (now : Int) : (stepD d now).has = d.has ∧ (stepD d now).cur = d.cur := by
  have e : ∀ (ws : List Nat) (d : FdD), (stN now d ws).has = d.has ∧ (stN now d ws).cur = d.cur := fun ws => by
    induction ws with
    | nil => intro d; exact ⟨rfl, rfl⟩
    | cons k ws ih => intro d; have := ih (st1 now d k); exact ⟨this.1, this.2⟩
  exact e _ _
end Go.Proofs.YtlkgeifmppadmaaGreat
namespace Go.Proofs.YtlkgeifmppadmaaGreat
open Go.RowKit
set_option linter.unusedVariables false
set_option linter.unusedSimpArgs false

/-- A feeder at block f, all in blocks from B on. -/
def FS (B : Nat) (w : World) (f : Nat) (d : FdD) : Prop := ∃ Z, FdAt Z w f d ∧ ∀ g, Z g → B ≤ g ∧ g < w.heap.size
theorem FS.below {B : Nat} {w w1 : World} {f : Nat} {d : FdD} (h : FS B w f d) (hb : Below w.heap.size w w1) : FS B w1 f d := by
  obtain ⟨Z, h1, h2⟩ := h
  exact ⟨Z, h1.below hb, fun g hg => ⟨(h2 g hg).1, Nat.lt_of_lt_of_le (h2 g hg).2 hb.size⟩⟩
theorem FS.low {B : Nat} {w : World} {f : Nat} {d : FdD} (h : FS B w f d) : B ≤ f ∧ f < w.heap.size := by
  obtain ⟨Z, ⟨r, us, es, h1⟩, h2⟩ := h
  exact h2 f (h1.mz f (.inl rfl))
theorem OwnersS.keep {B : Nat} {S : Nat → Prop} {w w1 : World} {v : Value} {n : Nat} (h : OwnersS S w v n) (hS : ∀ g, S g → g < B) (hb : Below B w w1) : OwnersS S w1 v n := h.chg (chg_belowB hb) (fun g hg e => by have := hS g hg; have h2 : B ≤ g := e; omega)
theorem new_fs (v : Value) (p : PolD) (retry : Int) (hs : SmallPol p) (hpb : polB p = true) (hr1 : 1 ≤ retry) (hr2 : retry ≤ 100) (w : World) (hv : PolV w v p) :
    Calls Tryz.prog 9 #[v, .int .i64 retry] w fun e w' => ∃ f, e = .returned (.tuple #[.pointer (some ⟨f, 0, none⟩), .int .i64 0]) ∧ FS w.heap.size w' f (fdNew p retry) ∧ Below w.heap.size w w' := by
  refine (fnew_yes v p retry hs hpb hr1 hr2 w hv).mono ?_
  rintro e w' ⟨f, Z, h1, h2, h3, h4⟩
  exact ⟨f, h1, ⟨Z, h2, h3⟩, h4⟩
/-- Behind an offer, taken or not. -/
def offN (d : FdD) (s : SgD) (now : Int) : FdD := if offB d s = true then offD d s now else d
theorem FdJ.offN {d : FdD} {p : PolD} {retry : Int} {n B : Nat} (h : FdJ d p retry n B) (hn : n ≤ 4) (s : SgD) (hs : SmallSig s.sig) (hr : s.ck.root.length ≤ 100000000) (now : Int) : FdJ (offN d s now) p retry n (B + 1) := by
  unfold Go.Proofs.YtlkgeifmppadmaaGreat.offN
  by_cases hb : offB d s = true
  · rw [if_pos hb]
    exact h.offer hn s hs hr now
  · rw [if_neg hb]
    exact ⟨h.pol, h.re, h.len, h.wh, by have := h.ml; omega, by have := h.ord; omega, fun k => by have := h.tr k; exact ⟨this.1, by have := this.2; omega⟩, h.sm⟩
theorem offer_fs (B : Nat) (f : Nat) (d : FdD) (p : PolD) (retry : Int) (n K : Nat) (v : Value) (s : SgD) (now : Int) (hj : FdJ d p retry n K) (hn : n ≤ 4) (hK : K ≤ 10000) (hp : p.log.length ≤ 1000000000) (hr : s.ck.root.length ≤ 100000000) (hs : SmallSig s.sig) (w : World) (hB : B ≤ w.heap.size) (h : FS B w f d) (hv : SgV w v s) :
    Calls Tryz.prog 11 #[.pointer (some ⟨f, 0, none⟩), v, .int .i64 now] w fun e w' => e = .returned (.bool (offB d s)) ∧ FS B w' f (offN d s now) ∧ Below B w w' := by
  obtain ⟨Z, ⟨r, us, es, h1⟩, h2⟩ := h
  have hlog : d.p.log.length ≤ 1000000000 := by rw [hj.pol]; exact hp
  cases hb : offB d s with
  | false =>
    refine (offer_no Z f d r us es v s now hlog hr hs w h1 hv hb).mono ?_
    rintro e w' ⟨e1, e2⟩
    refine ⟨e1, ?_, e2.mono hB⟩
    unfold offN
    rw [hb, if_neg (by decide)]
    exact FS.below ⟨Z, ⟨r, us, es, h1⟩, h2⟩ e2
  | true =>
    have h0 := hb
    simp only [offB, Bool.and_eq_true, Bool.not_eq_true', Bool.and_eq_false_iff, decide_eq_false_iff_not] at h0
    obtain ⟨a1, a2⟩ := h0
    refine (offer_yes Z f d r us es v s now hlog hr hs w h1 hv a1 (fun hh => by
      rcases a2 with a2 | a2
      · rw [hh] at a2; exact absurd a2 (by decide)
      · omega) (by have := hj.ml; omega) (by have := hj.ord; omega) (by rw [hj.len]; omega) (fun g hg => (h2 g hg).2)).mono ?_
    rintro e w' ⟨e1, e2, e3⟩
    refine ⟨e1, ?_, e3.below hB (fun k hk => (h2 k hk).1)⟩
    unfold offN
    rw [hb, if_pos rfl]
    refine ⟨_, e2, fun g hg => ?_⟩
    have hz := e3.size
    rcases hg with hg | hg
    · have := h2 g hg; exact ⟨this.1, by omega⟩
    · exact ⟨by have : w.heap.size ≤ g := hg.1; omega, hg.2⟩
theorem offer_fs_no (B : Nat) (f : Nat) (d : FdD) (p : PolD) (retry : Int) (n K : Nat) (v : Value) (s : SgD) (now : Int) (hj : FdJ d p retry n K) (hp : p.log.length ≤ 1000000000) (hr : s.ck.root.length ≤ 100000000) (hs : SmallSig s.sig) (hb : offB d s = false) (w : World) (h : FS B w f d) (hv : SgV w v s) :
    Calls Tryz.prog 11 #[.pointer (some ⟨f, 0, none⟩), v, .int .i64 now] w fun e w' => e = .returned (.bool false) ∧ Below w.heap.size w w' := by
  obtain ⟨Z, ⟨r, us, es, h1⟩, h2⟩ := h
  exact offer_no Z f d r us es v s now (by rw [hj.pol]; exact hp) hr hs w h1 hv hb
theorem step_fs (B : Nat) (f : Nat) (d : FdD) (p : PolD) (retry : Int) (n K : Nat) (now : Int) (hj : FdJ d p retry n K) (hn : n ≤ 4) (hK : K ≤ 10000) (hre : 1 ≤ retry ∧ retry ≤ 1000) (hnow : 0 ≤ now ∧ now ≤ 1000000000000) (w : World) (hB : B ≤ w.heap.size) (h : FS B w f d) :
    Calls Tryz.prog 35 #[.pointer (some ⟨f, 0, none⟩), .int .i64 now] w fun e w' => ∃ A c, e = .returned (.slice A (reqL d now).length c) ∧ w'.ownsRow w.heap.size 115 2 (.slice A (reqL d now).length c) (reqL d now).length (reqCells (reqL d now)) ∧ FS B w' f (stepD d now) ∧ Below B w w' := by
  obtain ⟨Z, h1, h2⟩ := h
  refine (step_any Z f d now hnow (by rw [hj.re]; exact hre) (by have := hj.ml; omega) (by have := hj.ord; omega) (fun x hx => by rw [hj.len]; exact hj.wh x hx) (fun k => by have := hj.tr k; exact ⟨this.1, by have := this.2; omega⟩) (by rw [hj.len]; omega) w (fun g hg => (h2 g hg).2) h1).mono ?_
  rintro e w' ⟨v, rfl, e1, e2, e3⟩
  obtain ⟨A, c, rfl⟩ := (Sho.own e1).form
  refine ⟨A, c, rfl, e1, ⟨_, e2, fun g hg => ?_⟩, e3.below hB (fun k hk => (h2 k hk).1)⟩
  have hz := e3.size
  rcases hg with hg | hg
  · have := h2 g hg; exact ⟨this.1, by omega⟩
  · exact ⟨by have : w.heap.size ≤ g := hg.1; omega, hg.2⟩
theorem current_fs (B : Nat) (f : Nat) (d : FdD) (p : PolD) (retry : Int) (n K : Nat) (hj : FdJ d p retry n K) (w : World) (h : FS B w f d) :
    Calls Tryz.prog 40 #[.pointer (some ⟨f, 0, none⟩)] w (CurPost w d) := by
  obtain ⟨Z, h1, h2⟩ := h
  exact current_any Z f d hj.sm.2 hj.sm.1 w h1
/-- What known finds, out of a feeder that was told nothing. -/
theorem known_law (P : PolD) (hw : P.wits.length = 2) (s : SgD) : (reqL (offD (fdNew P 5) s 0) 0).length = 2 ∧ (reqL (stepD (offD (fdNew P 5) s 0) 0) 0).length = 0 ∧ (reqL (stepD (stepD (offD (fdNew P 5) s 0) 0) 0) 5).length = 2 := by
  have e : offD (fdNew P 5) s 0 = ⟨P, 5, [⟨0, 0, 0⟩, ⟨0, 1, 1⟩], 2, [⟨0, 0, false⟩, ⟨0, 0, false⟩], s, true, [], zSg, []⟩ := by
    unfold offD fdNew
    dsimp only
    rw [hw]
    rfl
  rw [e]
  generalize zSg = z
  refine ⟨rfl, ?_, ?_⟩
  · have e1 : stepD ⟨P, 5, [⟨0, 0, 0⟩, ⟨0, 1, 1⟩], 2, [⟨0, 0, false⟩, ⟨0, 0, false⟩], s, true, [], z, []⟩ 0 = ⟨P, 5, [⟨5, 2, 0⟩, ⟨5, 3, 1⟩], 4, [⟨0, 1, false⟩, ⟨0, 1, false⟩], s, true, [], z, []⟩ := rfl
    rw [e1]; rfl
  · have e1 : stepD ⟨P, 5, [⟨0, 0, 0⟩, ⟨0, 1, 1⟩], 2, [⟨0, 0, false⟩, ⟨0, 0, false⟩], s, true, [], z, []⟩ 0 = ⟨P, 5, [⟨5, 2, 0⟩, ⟨5, 3, 1⟩], 4, [⟨0, 1, false⟩, ⟨0, 1, false⟩], s, true, [], z, []⟩ := rfl
    have e2 : stepD ⟨P, 5, [⟨5, 2, 0⟩, ⟨5, 3, 1⟩], 4, [⟨0, 1, false⟩, ⟨0, 1, false⟩], s, true, [], z, []⟩ 0 = ⟨P, 5, [⟨5, 2, 0⟩, ⟨5, 3, 1⟩], 4, [⟨0, 1, false⟩, ⟨0, 1, false⟩], s, true, [], z, []⟩ := rfl
    rw [e1, e2]; rfl
/-- What a law holds: its owners in blocks of S, its feeder in blocks from B on. -/
structure LawS (S : Nat → Prop) (B : Nat) (w wr : World) (v : Value) (n f : Nat) (d : FdD) : Prop where
  own : OwnersS S wr v n
  fs : FS B wr f d
  low : ∀ g, S g → g < B
  size : B ≤ wr.heap.size
  base : w.heap.size ≤ B
  below : Below w.heap.size w wr
theorem LawS.turn {S : Nat → Prop} {B : Nat} {w wr w1 : World} {v : Value} {n f : Nat} {d d1 : FdD} (h : LawS S B w wr v n f d) (hf : FS B w1 f d1) (hb : Below B wr w1) : LawS S B w w1 v n f d1 :=
  ⟨h.own.keep h.low hb, hf, h.low, Nat.le_trans h.size hb.size, h.base, h.below.trans (hb.mono h.base)⟩
theorem LawS.quiet {S : Nat → Prop} {B : Nat} {w wr w1 : World} {v : Value} {n f : Nat} {d : FdD} (h : LawS S B w wr v n f d) (hb : Below wr.heap.size wr w1) : LawS S B w w1 v n f d :=
  h.turn (h.fs.below hb) (hb.mono h.size)
theorem LawS.in {S : Nat → Prop} {B : Nat} {w wr : World} {v : Value} {n f : Nat} {d : FdD} (h : LawS S B w wr v n f d) : ∀ g, S g → g < wr.heap.size := fun g hg => Nat.lt_of_lt_of_le (h.low g hg) h.size
theorem OwnersS.get {S : Nat → Prop} {w : World} {g o m c n : Nat} (h : OwnersS S w (.slice (some ⟨g, o, none⟩) m c) n) (i : Nat) (hi : i < n) : ∃ b, g < w.heap.size ∧ w.cell? ⟨g, o + i, none⟩ = some (.pointer (some ⟨b, 0, none⟩)) ∧ OwnerS S w b (seedS (i : Int)) := by
  obtain ⟨g', o', b, e, h1, -, -, h2, h3⟩ := h.at' i hi
  injection e with e
  injection e with e1 e2
  subst e1 e2
  exact ⟨b, h1, h2, h3⟩
theorem reqL_dueN (d : FdD) (now : Int) : dueN d.m now = (reqL d now).length := by simp [reqL, whoL, dueN]
end Go.Proofs.YtlkgeifmppadmaaGreat
namespace Go.Proofs.YtlkgeifmppadmaaGreat
open Go.RowKit
set_option linter.unusedVariables false
set_option linter.unusedSimpArgs false

theorem signed_small (seed : List UInt8) (z : Int) (h0 : 0 ≤ z) : SmallSig (signedS seed z).sig ∧ (signedS seed z).ck.root.length ≤ 100000000 := ⟨small_of seed (z % 16) (by omega) (by omega) _, by show (hashS z).length ≤ _; rw [hashS_length]; decide⟩
theorem known_off (P : PolD) (s3 s2 : SgD) (h3 : ckVerB P.log s3 = true) (n3 : s3.ck.num = 3) (n2 : s2.ck.num = 2) : offB (fdNew P 5) s3 = true ∧ offB (offD (fdNew P 5) s3 0) s2 = false := by
  constructor
  · show (ckVerB P.log s3 && !(false && _)) = true
    rw [h3]; rfl
  · show (ckVerB P.log s2 && !(true && decide (s2.ck.num ≤ s3.ck.num))) = false
    rw [n3, n2]; simp
set_option maxRecDepth 100000 in
set_option maxHeartbeats 8000000 in
theorem known_any (w : World) : Calls Tryz.prog 16 #[] w fun e w' => e = .returned (.bool true) ∧ Below w.heap.size w w' := by
  have HO := Lib.hid (fun wz : World => owners_any 2 (by decide) wz)
  change Hid (∀ wz : World, Calls Tryz.prog 7 #[.int .i64 2] wz fun e w' => ∃ v, e = .returned v ∧ OwnersS (fun g => wz.heap.size ≤ g ∧ g < w'.heap.size) w' v 3 ∧ Below wz.heap.size wz w') at HO
  have HPO := Lib.hid (fun (wz : World) (S : Nat → Prop) (v : Value) (z1 : OwnersS S wz v 3) (z2 : ∀ g, S g → g < wz.heap.size) => lpolicy_any S 2 1 v (by decide) wz z1 z2)
  have HNW := Lib.hid (fun (wz : World) (v : Value) (z : PolV wz v (polS 2 1)) => new_fs v (polS 2 1) 5 (pol_small 2 1 (by decide) (by decide) (by decide)) (pol_right 2 1 (by decide) (by decide) (by decide) (by decide)) (by decide) (by decide) wz z)
  have HS3 := Lib.hid (fun (wz : World) (S : Nat → Prop) (b : Nat) (z1 : OwnerS S wz b (seedS ((0 : Nat) : Int))) (z2 : ∀ g, S g → g < wz.heap.size) => signed_any S b (seedS ((0 : Nat) : Int)) 3 (by decide) (by decide) (by rw [seedS_length]; decide) wz z1 z2)
  have HS2 := Lib.hid (fun (wz : World) (S : Nat → Prop) (b : Nat) (z1 : OwnerS S wz b (seedS ((0 : Nat) : Int))) (z2 : ∀ g, S g → g < wz.heap.size) => signed_any S b (seedS ((0 : Nat) : Int)) 2 (by decide) (by decide) (by rw [seedS_length]; decide) wz z1 z2)
  have HV3 : Hid (ckVerB (polS 2 1).log (signedS (seedS ((0 : Nat) : Int)) 3) = true) := Lib.hid (ck_of (seedS 0) 3 (by decide) (by decide))
  have hm3 := signed_small (seedS ((0 : Nat) : Int)) 3 (by decide)
  have hm2 := signed_small (seedS ((0 : Nat) : Int)) 2 (by decide)
  have hn3 : (signedS (seedS ((0 : Nat) : Int)) 3).ck.num = 3 := rfl
  have hn2 : (signedS (seedS ((0 : Nat) : Int)) 2).ck.num = 2 := rfl
  have hpl : (polS 2 1).log.length ≤ 1000000000 := by show (ownerS (seedS 0)).length ≤ _; rw [ownerS_length]; decide
  have hpw : (polS 2 1).wits.length = 2 := witS_length 2
  generalize signedS (seedS ((0 : Nat) : Int)) 3 = s3 at *
  generalize signedS (seedS ((0 : Nat) : Int)) 2 = s2 at *
  generalize polS 2 1 = P at *
  obtain ⟨ho3, ho2⟩ := known_off P s3 s2 HV3.out hn3 hn2
  obtain ⟨hr1, hr2, hr3⟩ := known_law P hpw s3
  have hj0 := fdj_new P 5
  rw [hpw] at hj0
  have e1 : offN (fdNew P 5) s3 0 = offD (fdNew P 5) s3 0 := by unfold offN; rw [ho3, if_pos rfl]
  have e2 : offN (offD (fdNew P 5) s3 0) s2 0 = offD (fdNew P 5) s3 0 := by unfold offN; rw [ho2, if_neg (by decide)]
  have hj1 := hj0.offN (by decide) s3 hm3.1 hm3.2 0
  rw [e1] at hj1
  have hj2 := hj1.offN (by decide) s2 hm2.1 hm2.2 0
  rw [e2] at hj2
  have hj3 := hj2.step 0 (by rw [reqL_dueN, hr1]; decide)
  have hj4 := hj3.step 0 (by rw [reqL_dueN, hr2]; decide)
  have HOF1 := Lib.hid (fun (wz : World) (B f : Nat) (v : Value) (z0 : B ≤ wz.heap.size) (z1 : FS B wz f (fdNew P 5)) (z2 : SgV wz v s3) => offer_fs B f (fdNew P 5) P 5 2 0 v s3 0 hj0 (by decide) (by decide) hpl hm3.2 hm3.1 wz z0 z1 z2)
  rw [ho3, e1] at HOF1
  have HOF2 := Lib.hid (fun (wz : World) (B f : Nat) (v : Value) (z0 : B ≤ wz.heap.size) (z1 : FS B wz f (offD (fdNew P 5) s3 0)) (z2 : SgV wz v s2) => offer_fs B f (offD (fdNew P 5) s3 0) P 5 2 _ v s2 0 hj1 (by decide) (by decide) hpl hm2.2 hm2.1 wz z0 z1 z2)
  rw [ho2, e2] at HOF2
  have HST1 := Lib.hid (fun (wz : World) (B f : Nat) (z0 : B ≤ wz.heap.size) (z1 : FS B wz f (offD (fdNew P 5) s3 0)) => step_fs B f _ P 5 2 _ 0 hj2 (by decide) (by decide) (by decide) (by decide) wz z0 z1)
  rw [hr1] at HST1
  have HST2 := Lib.hid (fun (wz : World) (B f : Nat) (z0 : B ≤ wz.heap.size) (z1 : FS B wz f (stepD (offD (fdNew P 5) s3 0) 0)) => step_fs B f _ P 5 2 _ 0 hj3 (by decide) (by decide) (by decide) (by decide) wz z0 z1)
  rw [hr2] at HST2
  have HST3 := Lib.hid (fun (wz : World) (B f : Nat) (z0 : B ≤ wz.heap.size) (z1 : FS B wz f (stepD (stepD (offD (fdNew P 5) s3 0) 0) 0)) => step_fs B f _ P 5 2 _ 5 hj4 (by decide) (by decide) (by decide) (by decide) wz z0 z1)
  rw [hr3] at HST3
  clear hm3 hm2 hn3 hn2 hpl hpw ho3 ho2 hr1 hr2 hr3 hj0 hj1 hj2 hj3 hj4 e1 e2 HV3
  generalize stepD (stepD (offD (fdNew P 5) s3 0) 0) 5 = d4 at *
  generalize stepD (stepD (offD (fdNew P 5) s3 0) 0) 0 = d3 at *
  generalize stepD (offD (fdNew P 5) s3 0) 0 = d2 at *
  generalize offD (fdNew P 5) s3 0 = d1 at *
  generalize fdNew P 5 = d0 at *
  generalize hsd : seedS ((0 : Nat) : Int) = sd at *
  have HSD := Lib.hid hsd
  clear hsd
  go_enter Tryz.func16, Tryz.ntmps16
  go_wp2_with fail
  refine (HO.out _).mono ?_
  rintro e w1 ⟨v1, rfl, h1, h2⟩
  obtain ⟨A, c, rfl⟩ := h1.form
  have H1 := Lib.hid (And.intro h1 h2)
  clear h1 h2
  go_wp2_with fail
  refine (HPO.out _ _ _ H1.out.1 (fun g hg => hg.2)).mono ?_
  rintro e w2 ⟨v2, rfl, h1, h2⟩
  have H2 := Lib.hid (And.intro h1 h2)
  clear h1 h2
  go_wp2_with fail
  refine (HNW.out _ _ H2.out.1).mono ?_
  rintro e w3 ⟨f, rfl, h1, h2⟩
  have H3 : Hid (LawS (fun g => w.heap.size ≤ g ∧ g < w1.heap.size) w2.heap.size w w3 (.slice A 3 c) 3 f d0) := Lib.hid ⟨(H1.out.1.below H2.out.2).below h2, h1, fun g hg => Nat.lt_of_lt_of_le hg.2 H2.out.2.size, h2.size, Nat.le_trans H1.out.2.size H2.out.2.size, (H1.out.2.trans (H2.out.2.mono H1.out.2.size)).trans (h2.mono (Nat.le_trans H1.out.2.size H2.out.2.size))⟩
  clear h1 h2
  obtain ⟨g, o, b0, rfl, hg, -, hcap, hc0, ho0⟩ := H3.out.own.at' 0 (by decide)
  rw [Nat.add_zero] at hc0
  rw [HSD.out] at ho0
  go_wp2_with fail
  refine (HS3.out _ _ _ ho0 H3.out.in).mono ?_
  rintro e w4 ⟨v4, rfl, h1, h2⟩
  have H4 := Lib.hid (And.intro h1.sgv (H3.out.quiet h2))
  clear h1 h2 hc0 ho0 hg
  go_wp2_with fail
  refine (HOF1.out _ _ _ _ H4.out.2.size H4.out.2.fs H4.out.1).mono ?_
  rintro e w5 ⟨rfl, h1, h2⟩
  have H5 := Lib.hid (H4.out.2.turn h1 h2)
  clear h1 h2
  obtain ⟨b0, hg, hc0, ho0⟩ := H5.out.own.get 0 (by decide)
  rw [Nat.add_zero] at hc0
  rw [HSD.out] at ho0
  go_wp2_with fail
  refine (HS2.out _ _ _ ho0 H5.out.in).mono ?_
  rintro e w6 ⟨v6, rfl, h1, h2⟩
  have H6 := Lib.hid (And.intro h1.sgv (H5.out.quiet h2))
  clear h1 h2 hc0 ho0 hg
  go_wp2_with fail
  refine (HOF2.out _ _ _ _ H6.out.2.size H6.out.2.fs H6.out.1).mono ?_
  rintro e w7 ⟨rfl, h1, h2⟩
  have H7 := Lib.hid (H6.out.2.turn h1 h2)
  clear h1 h2
  go_wp2_with fail
  refine (HST1.out _ _ _ H7.out.size H7.out.fs).mono ?_
  rintro e w8 ⟨A8, c8, rfl, -, h1, h2⟩
  have H8 := Lib.hid (H7.out.turn h1 h2)
  clear h1 h2
  go_wp2_with fail
  refine (HST2.out _ _ _ H8.out.size H8.out.fs).mono ?_
  rintro e w9 ⟨A9, c9, rfl, -, h1, h2⟩
  have H9 := Lib.hid (H8.out.turn h1 h2)
  clear h1 h2
  go_wp2_with fail
  refine (HST3.out _ _ _ H9.out.size H9.out.fs).mono ?_
  rintro e w10 ⟨A10, c10, rfl, -, h1, h2⟩
  have H10 := Lib.hid (H9.out.turn h1 h2)
  clear h1 h2
  go_wp2
  go_ret
  exact ⟨rfl, H10.out.below⟩
end Go.Proofs.YtlkgeifmppadmaaGreat
namespace Go.Proofs.YtlkgeifmppadmaaGreat
open Go.RowKit
set_option linter.unusedVariables false
set_option linter.unusedSimpArgs false

theorem far4 (w : World) (b : Nat) (u0 u1 u2 u3 : Value) (a : Addr) (h : b ≠ a.block) : ((((w.setCell ⟨b, 0, none⟩ u0).setCell ⟨b, 1, none⟩ u1).setCell ⟨b, 2, none⟩ u2).setCell ⟨b, 3, none⟩ u3).cell? a = w.cell? a := by
  rw [World.cell?_setCell_far _ _ _ _ h, World.cell?_setCell_far _ _ _ _ h, World.cell?_setCell_far _ _ _ _ h, World.cell?_setCell_far _ _ _ _ h]
def cosigS (seed : List UInt8) (k : Int) (c : CkD) : CgD := ⟨k, signS seed (c.num % 16) (bodyS tagCo c)⟩
set_option maxRecDepth 100000 in
set_option maxHeartbeats 8000000 in
theorem cosig_any (S : Nat → Prop) (g o cc n k : Nat) (vc : Value) (c : CkD) (hk : k + 1 < n) (hn : n ≤ 100) (h0 : 0 ≤ c.num) (h1 : c.num ≤ 256) (hr : c.root.length ≤ 1000000) (w : World) (ho : OwnersS S w (.slice (some ⟨g, o, none⟩) n cc) n) (hS : ∀ g, S g → g < w.heap.size) (hvc : CkV w vc c) :
    Calls Tryz.prog 13 #[.slice (some ⟨g, o, none⟩) n cc, .int .i64 k, vc] w fun e w' => ∃ v, e = .returned v ∧ CgF (fun g => S g ∨ (w.heap.size ≤ g ∧ g < w'.heap.size)) w' v (cosigS (seedS ((k + 1 : Nat) : Int)) k c) ∧ Below w.heap.size w w' := by
  obtain ⟨rt, rfl, hrt⟩ := hvc
  obtain ⟨A1, n1, rfl⟩ := hrt.form
  obtain ⟨b0, hg0, hc, ho0⟩ := ho.get (k + 1) hk
  have hb1 := (Below.refl w.heap.size w).alloc (Nat.le_refl _) (.cells #[.int .i64 c.num, .slice A1 c.root.length n1] 36)
  have hb0 := hb1.alloc (by simp) (.cells #[.int .i64 0, .int .i64 0, .slice none 0 0, .slice none 0 0] 47)
  have hk0 := (Blk.new w 36 [.int .i64 c.num, .slice A1 c.root.length n1]).below ((Below.refl _ _).alloc (Nat.le_refl _) (.cells #[.int .i64 0, .int .i64 0, .slice none 0 0, .slice none 0 0] 47))
  have hk1 := Blk.new (w.alloc (.cells #[.int .i64 c.num, .slice A1 c.root.length n1] 36)) 47 [.int .i64 0, .int .i64 0, .slice none 0 0, .slice none 0 0]
  rw [show (w.alloc (.cells #[.int .i64 c.num, .slice A1 c.root.length n1] 36)).heap.size = w.heap.size + 1 by simp] at hk1
  have HW := Lib.hid (And.intro hk0 (And.intro hk1 (And.intro hb0 (And.intro (ho0.chg (Chg.of_below (S := fun _ => False) hb0) (fun _ _ h => h)) (hrt.below hb0)))))
  have hcw := (hb0.cell (p := ⟨g, o + (k + 1), none⟩) hg0).trans hc
  have HCC := Lib.hid hcw
  have HMOD : Hid (c.num.tmod 16 = c.num % 16) := Lib.hid (Int.tmod_eq_emod_of_nonneg h0)
  have HBL : Hid ((bodyS tagCo c).length ≤ 1000000000) := Lib.hid (by have := bodyS_length tagCo c; have : tagCo.length = 17 := rfl; omega)
  have HBD := Lib.hid (fun (wz : World) (v : Value) (hz : CkV wz v c) => rckcosign_any v c (by omega) wz hz)
  change Hid (∀ (wz : World) (v : Value), CkV wz v c → Calls Tryz.prog 32 #[v] wz fun e w' => ∃ v', e = .returned v' ∧ Bys w' v' (bodyS tagCo c) ∧ Below wz.heap.size wz w') at HBD
  have HSN := Lib.hid (fun (b : Nat) (wz : World) (vm : Value) (z1 : OwnerS S wz b (seedS ((k + 1 : Nat) : Int))) (z2 : Bys wz vm (bodyS tagCo c)) => rosign_s S b vm (seedS ((k + 1 : Nat) : Int)) (bodyS tagCo c) (c.num % 16) (by omega) (by omega) (by rw [seedS_length]; decide) HBL.out wz z1 z2)
  have HSD : Hid (cosigS (seedS ((k + 1 : Nat) : Int)) k c = ⟨(k : Int), signS (seedS ((k + 1 : Nat) : Int)) (c.num % 16) (bodyS tagCo c)⟩) := Lib.hid rfl
  have HSL := Lib.hid hS
  have ew : IntKind.i64.wrap ((k : Int) + 1) = (k : Int) + 1 := IntWalk.i64_in _ (by omega)
  clear hb0 hb1 hk0 hk1 ho hS hrt hc hcw ho0 HBL
  generalize cosigS (seedS ((k + 1 : Nat) : Int)) k c = SD at *
  generalize signS (seedS ((k + 1 : Nat) : Int)) (c.num % 16) (bodyS tagCo c) = sg at *
  generalize bodyS tagCo c = BO at *
  generalize seedS ((k + 1 : Nat) : Int) = sd at *
  have hkn : ((k : Int) + 1) < (n : Int) := by omega
  have hkz : 0 ≤ (k : Int) + 1 := by omega
  have hktn : ((k : Int) + 1).toNat = k + 1 := by omega
  go_enter Tryz.func13, Tryz.ntmps13
  go_wp2
  refine code_at (fun w2 => Blk w2 w.heap.size 36 [.int .i64 c.num, .slice A1 c.root.length n1] ∧ Blk w2 (w.heap.size + 1) 47 [.int .i64 0, .int .i64 0, .slice none 0 0, .slice none 0 0] ∧ Below w.heap.size w w2 ∧ OwnerS S w2 b0 sd ∧ Bys w2 (.slice A1 c.root.length n1) c.root ∧ w2.cell? ⟨g, o + (k + 1), none⟩ = some (.pointer (some ⟨b0, 0, none⟩))) ⟨HW.out.1, HW.out.2.1, HW.out.2.2.1, HW.out.2.2.2.1, HW.out.2.2.2.2, HCC.out⟩ ?_
  rintro w2 ⟨k0, k1, kb, ko, kr, hc0⟩
  have H2 : Hid (Blk w2 w.heap.size 36 [.int .i64 c.num, .slice A1 c.root.length n1] ∧ Blk w2 (w.heap.size + 1) 47 [.int .i64 0, .int .i64 0, .slice none 0 0, .slice none 0 0] ∧ Below w.heap.size w w2 ∧ OwnerS S w2 b0 sd ∧ Bys w2 (.slice A1 c.root.length n1) c.root) := Lib.hid ⟨k0, k1, kb, ko, kr⟩
  have c0 := k0.cell 0 _ rfl
  have c1 := k0.cell 1 _ rfl
  have hgo : g < w2.heap.size := Nat.lt_of_lt_of_le hg0 kb.size
  clear k0 k1 kb ko kr HCC
  refine wp_region_held_drew (S := fun w' => w'.cell? ⟨w.heap.size, 0, none⟩ = some (.int .i64 c.num) ∧ w'.cell? ⟨w.heap.size, 1, none⟩ = some (.slice A1 c.root.length n1) ∧ w'.cell? ⟨g, o + (k + 1), none⟩ = some (.pointer (some ⟨b0, 0, none⟩))) (by kernel_rfl) ?_ (fun hHeld => ?_)
  · exact ⟨c0, c1, hc0⟩
  refine take_yes 0 7 rfl rfl (by kernel_rfl) (by kernel_rfl) (by kernel_rfl) (fun _ _ _ h => h) (by assumption) (by rfl) (v := ?_) ?_ ?_
  rotate_left 1
  · (intro w hSw; (try dsimp only at hSw); go_simp; try with_reducible rfl)
  simp only [List.setIfInBounds_toArray, List.set_cons_zero, List.set_cons_succ]
  refine take_yes 1 8 rfl rfl (by kernel_rfl) (by kernel_rfl) (by kernel_rfl) (fun _ _ _ h => h) (by assumption) (by rfl) (v := ?_) ?_ ?_
  rotate_left 1
  · (intro w hSw; (try dsimp only at hSw); go_simp; try with_reducible rfl)
  simp only [List.setIfInBounds_toArray, List.set_cons_zero, List.set_cons_succ]
  refine take_yes 2 9 rfl rfl (by kernel_rfl) (by kernel_rfl) (by kernel_rfl) (fun _ _ _ h => h) (by assumption) (by rfl) (v := ?_) ?_ ?_
  rotate_left 1
  · (intro w hSw; (try dsimp only at hSw); go_simp; try with_reducible rfl)
  simp only [List.setIfInBounds_toArray, List.set_cons_zero, List.set_cons_succ]
  refine take_yes 3 10 rfl rfl (by kernel_rfl) (by kernel_rfl) (by kernel_rfl) (fun _ _ _ h => h) (by assumption) (by rfl) (v := ?_) ?_ ?_
  rotate_left 1
  · (intro w hSw; (try dsimp only at hSw); go_simp; try with_reducible rfl)
  simp only [List.setIfInBounds_toArray, List.set_cons_zero, List.set_cons_succ]
  refine take_yes 4 11 rfl rfl (by kernel_rfl) (by kernel_rfl) (by kernel_rfl) (fun _ _ _ h => h) (by assumption) (by rfl) (v := ?_) ?_ ?_
  rotate_left 1
  · (intro w hSw; (try dsimp only at hSw); go_simp; try with_reducible rfl)
  simp only [List.setIfInBounds_toArray, List.set_cons_zero, List.set_cons_succ]
  refine take_yes 5 12 rfl rfl (by kernel_rfl) (by kernel_rfl) (by kernel_rfl) (fun _ _ _ h => h) (by assumption) (by rfl) (v := ?_) ?_ ?_
  rotate_left 1
  · (intro w hSw; (try dsimp only at hSw); go_simp; try with_reducible rfl)
  simp only [List.setIfInBounds_toArray, List.set_cons_zero, List.set_cons_succ]
  refine take_yes 6 13 rfl rfl (by kernel_rfl) (by kernel_rfl) (by kernel_rfl) (fun _ _ _ h => h) (by assumption) (by rfl) (v := ?_) ?_ ?_
  rotate_left 1
  · (intro w hSw; (try dsimp only at hSw); go_simp; try with_reducible rfl)
  simp only [List.setIfInBounds_toArray, List.set_cons_zero, List.set_cons_succ]
  refine take_yes 7 14 rfl rfl (by kernel_rfl) (by kernel_rfl) (by kernel_rfl) (fun _ _ _ h => h) (by assumption) (by rfl) (v := ?_) ?_ ?_
  rotate_left 1
  · (intro w hSw; (try dsimp only at hSw); go_simp; try with_reducible rfl)
  simp only [List.setIfInBounds_toArray, List.set_cons_zero, List.set_cons_succ]
  refine take_yes 8 15 rfl rfl (by kernel_rfl) (by kernel_rfl) (by kernel_rfl) (fun _ _ _ h => h) (by assumption) (by rfl) (v := ?_) ?_ ?_
  rotate_left 1
  · (intro w hSw; (try dsimp only at hSw); go_simp; try with_reducible rfl)
  simp only [List.setIfInBounds_toArray, List.set_cons_zero, List.set_cons_succ]
  refine take_yes 9 16 rfl rfl (by kernel_rfl) (by kernel_rfl) (by kernel_rfl) (fun _ _ _ h => h) (by assumption) (by rfl) (v := ?_) ?_ ?_
  rotate_left 1
  · (intro w hSw; (try dsimp only at hSw); go_simp; try with_reducible rfl)
  simp only [List.setIfInBounds_toArray, List.set_cons_zero, List.set_cons_succ]
  refine wpAnyH_ready (rs := [10]) (by kernel_rfl) (by simp) ?_
  refine AllReadyH.cons rfl (fun K hK => ?_) AllReadyH.nil
  -- 10:  dst := some 17, op := Op.call  callee := Callee.value (Operand.func 39), args := #[Operand.tmp 16], argTypes := #[36] , type :
  go_simp
  go_at_call 32
  refine (HBD.out w2.drew _ ⟨_, rfl, H2.out.2.2.2.2.below (Below.refl _ _).drew⟩).mono ?_
  rintro e w3 ⟨v3, rfl, h3, h4'⟩
  obtain ⟨A3, n3, rfl⟩ := h3.form
  have h4 : Below w2.heap.size w2 w3 := ⟨h4'.os, h4'.tape, h4'.output, h4'.size, h4'.block⟩
  have k5 := H2.out.1.below h4
  have e0 := k5.cell 0 _ rfl
  have e1 := k5.cell 1 _ rfl
  have e2 := (h4.cell (p := ⟨g, o + (k + 1), none⟩) hgo).trans hc0
  have H3 := Lib.hid (And.intro h3 (And.intro h4 (And.intro k5 (And.intro (H2.out.2.1.below h4) (H2.out.2.2.2.1.chg (Chg.of_below (S := fun _ => False) h4) (fun _ _ h => h))))))
  have hgo3 := Nat.lt_of_lt_of_le hgo h4.size
  clear h3 h4 h4' k5
  go_wp2_with fail
  refine hK.out _ _ ⟨e0, e1, e2⟩ (fun hHeld10 => ?_)
  clear hK K
  try simp only [Act.put, List.setIfInBounds_toArray, List.set_cons_zero, List.set_cons_succ]
  refine wpAnyH_ready (rs := [11]) (by kernel_rfl) (by simp) ?_
  refine AllReadyH.cons rfl (fun K hK => ?_) AllReadyH.nil
  -- 11:  dst := some 18, op := Op.call  callee := Callee.value (Operand.func 28), args := #[Operand.tmp 12, Operand.tmp 15, Operand.tmp 
  go_simp
  go_at_call 25
  rw [HMOD.out]
  refine (HSN.out b0 w3 _ H3.out.2.2.2.2 H3.out.1).mono ?_
  rintro e w4 ⟨v4, rfl, ⟨p4, q4, rfl, h5, h6⟩, h7⟩
  obtain ⟨A4, n4, rfl⟩ := h5.rws.form
  obtain ⟨A5, n5, rfl⟩ := h6.rws.form
  have k5 := H3.out.2.2.1.below h7
  have kz := H3.out.2.2.2.1.below h7
  have i0 := k5.cell 0 _ rfl
  have i1 := k5.cell 1 _ rfl
  have i2 := (h7.cell (p := ⟨g, o + (k + 1), none⟩) hgo3).trans e2
  have z0 := kz.cell 0 _ rfl
  have z1 := kz.cell 1 _ rfl
  have z2 := kz.cell 2 _ rfl
  have z3 := kz.cell 3 _ rfl
  have y0 := kz.free 0
  have y1 := kz.free 1
  have y2 := kz.free 2
  have y3 := kz.free 3
  have hsz34 := h7.size
  have hsz23 := H3.out.2.1.size
  have hsz12 := H2.out.2.2.1.size
  have hlt2 := H2.out.2.1.lt
  have H4 := Lib.hid (And.intro h5 (And.intro h6 (And.intro kz (H2.out.2.2.1.trans ((H3.out.2.1.mono hsz12).trans (h7.mono (Nat.le_trans hsz12 hsz23)))))))
  clear h5 h6 h7 k5 kz e0 e1 e2
  go_wp2_with fail
  refine hK.out _ _ ⟨i0, i1, i2⟩ (fun hHeld11 => ?_)
  clear hK K
  try simp only [Act.put, List.setIfInBounds_toArray, List.set_cons_zero, List.set_cons_succ]
  refine take_yes 12 19 rfl rfl (by kernel_rfl) (by kernel_rfl) (by kernel_rfl) (fun _ _ _ h => h) (by assumption) (by rfl) (v := ?_) ?_ ?_
  rotate_left 1
  · (intro w hSw; (try dsimp only at hSw); go_simp; try with_reducible rfl)
  simp only [List.setIfInBounds_toArray, List.set_cons_zero, List.set_cons_succ]
  refine wpAnyH_ready (rs := [13]) (by kernel_rfl) (by simp) ?_
  refine AllReadyH.cons rfl (fun K hK => ?_) AllReadyH.nil
  -- 13:  dst := none, op := Op.store 58 (Operand.tmp 6) (Operand.tmp 19), type := 0
  go_simp
  refine hK.out _ _ ⟨(far4 w4 (w.heap.size + 1) _ _ _ _ _ (show w.heap.size + 1 ≠ w.heap.size by omega)).trans i0, (far4 w4 (w.heap.size + 1) _ _ _ _ _ (show w.heap.size + 1 ≠ w.heap.size by omega)).trans i1, (far4 w4 (w.heap.size + 1) _ _ _ _ _ (show w.heap.size + 1 ≠ g by omega)).trans i2⟩ (fun hHeld13 => ?_)
  clear hK K
  try simp only [Act.put, List.setIfInBounds_toArray, List.set_cons_zero, List.set_cons_succ]
  refine wpAnyH_done (by kernel_rfl) ?_ _
  have hch : Chg w4 ((((w4.setCell ⟨w.heap.size + 1, 0, none⟩ (.int .i64 k)).setCell ⟨w.heap.size + 1, 1, none⟩ (.int .i64 sg.index)).setCell ⟨w.heap.size + 1, 2, none⟩ (.slice A4 sg.parts.length n4)).setCell ⟨w.heap.size + 1, 3, none⟩ (.slice A5 sg.path.length n5)) (fun k => k = w.heap.size + 1) := chg_cell (chg_cell (chg_cell (chg_cell (Chg.refl w4 _) 0 _) 1 _) 2 _) 3 _
  have hfin : Blk ((((w4.setCell ⟨w.heap.size + 1, 0, none⟩ (.int .i64 k)).setCell ⟨w.heap.size + 1, 1, none⟩ (.int .i64 sg.index)).setCell ⟨w.heap.size + 1, 2, none⟩ (.slice A4 sg.parts.length n4)).setCell ⟨w.heap.size + 1, 3, none⟩ (.slice A5 sg.path.length n5)) (w.heap.size + 1) 47 [.int .i64 k, .int .i64 sg.index, .slice A4 sg.parts.length n4, .slice A5 sg.path.length n5] := (((H4.out.2.2.1.set 0 _ (by simp)).set 1 _ (by simp)).set 2 _ (by simp)).set 3 _ (by simp)
  generalize (((w4.setCell ⟨w.heap.size + 1, 0, none⟩ (.int .i64 k)).setCell ⟨w.heap.size + 1, 1, none⟩ (.int .i64 sg.index)).setCell ⟨w.heap.size + 1, 2, none⟩ (.slice A4 sg.parts.length n4)).setCell ⟨w.heap.size + 1, 3, none⟩ (.slice A5 sg.path.length n5) = w5 at *
  have HF := Lib.hid (And.intro hch hfin)
  clear hch hfin z0 z1 z2 z3 y0 y1 y2 y3 i0 i1 i2 c0 c1
  go_wp2
  obtain ⟨h5, h6, -, h7⟩ := H4.out
  refine bodyPost_ret (v := .agg [.int .i64 k, .int .i64 sg.index, .slice A4 sg.parts.length n4, .slice A5 sg.path.length n5].toArray) ?_ ?_ ⟨_, rfl, ?_, ?_⟩
  · exact results_cell_row Tryz.results13 _ _ (w.heap.size + 1) 47 _ (0, 0) _ rfl HF.out.2 under_cosig rfl size_cosig
  · rfl
  · rw [HSD.out]
    have hz := HF.out.1.size
    have hmono : ∀ g, (S g ∨ (w3.heap.size ≤ g ∧ g < w4.heap.size)) → S g ∨ (w.heap.size ≤ g ∧ g < w5.heap.size) := fun g hg => by
      rcases hg with h | h
      · exact .inl h
      · exact .inr ⟨by omega, by omega⟩
    have hne : ∀ g, (S g ∨ (w3.heap.size ≤ g ∧ g < w4.heap.size)) → ¬ (g = w.heap.size + 1) := fun g hg e => by
      rcases hg with h | h
      · have := HSL.out g h; omega
      · omega
    exact ⟨_, _, rfl, (h5.chg HF.out.1 hne).mono hmono, (h6.chg HF.out.1 hne).mono hmono⟩
  · exact h7.trans (HF.out.1.below h7.size (fun k hk => by omega))
end Go.Proofs.YtlkgeifmppadmaaGreat
namespace Go.Proofs.YtlkgeifmppadmaaGreat
open Go.RowKit
set_option linter.unusedVariables false
set_option linter.unusedSimpArgs false

theorem FdJ.keep0 {d : FdD} {p : PolD} {retry : Int} {n B : Nat} (h : FdJ d p retry n B) (k : Nat) (g : CgD) : FdJ (keep0 d k g) p retry n B := by
  refine ⟨h.pol, h.re, by show (d.l.set _ _).length = n; rw [List.length_set]; exact h.len, fun x hx => h.wh x (mem_keepW.1 hx).1, ?_, h.ord, ?_, h.sm⟩
  · show (keepW _ d.m).length ≤ _
    have := keepW_le (k : Int) d.m
    have := h.ml
    omega
  · intro j
    show 0 ≤ (wAt (d.l.set k _) j).tries ∧ (wAt (d.l.set k _) j).tries ≤ _
    rw [wAt_set]
    split
    · exact h.tr k
    · exact h.tr j
theorem FdJ.more {d : FdD} {p : PolD} {retry : Int} {n B B' : Nat} (h : FdJ d p retry n B) (hb : B ≤ B') : FdJ d p retry n B' :=
  ⟨h.pol, h.re, h.len, h.wh, by have := h.ml; omega, by have := h.ord; omega, fun k => by have := h.tr k; exact ⟨this.1, by have := this.2; omega⟩, h.sm⟩
/-- A cosignature of one of the law's witnesses verifies. -/
theorem cg_of (n : Nat) (q : Int) (h1 : 1 ≤ n) (hn : n ≤ 3) (hq : 1 ≤ q) (hq2 : q ≤ (n : Int)) (z : Int) (h0 : 0 ≤ z) (hz : z ≤ 256) (k : Nat) (hk : k < n) :
    cgVerB (polS n q) ⟨z, hashS z⟩ (cosigS (seedS ((k : Int) + 1)) k ⟨z, hashS z⟩) = true := by
  unfold cgVerB
  have e : ckB ⟨z, hashS z⟩ = true := by
    show (decide (0 ≤ z) && decide (z ≤ 256) && decide ((hashS z).length = 32)) = true
    rw [hashS_length]; simp [h0, hz]
  have ew : (polS n q).wits.getD k [] = ownerS (seedS ((k : Int) + 1)) := by
    show (witS n).getD k [] = _
    unfold witS
    rw [List.getD_eq_getElem?_getD, List.getElem?_map, List.getElem?_range hk]
    rfl
  have hl : (polS n q).wits.length = n := witS_length n
  rw [pol_right n q h1 hn hq hq2, e, hl]
  show (true && (true && (decide ((0 : Int) ≤ (k : Int)) && (decide ((k : Int) < (n : Int)) && verifyB ((polS n q).wits.getD (k : Int).toNat []) _ _)))) = true
  rw [Int.toNat_natCast, ew, decide_eq_true (by omega), decide_eq_true (by omega)]
  exact verify_of (seedS ((k : Int) + 1)) (z % 16) (by omega) (by omega) _
theorem cg_small (seed : List UInt8) (k : Int) (z : Int) (h0 : 0 ≤ z) : SmallSig (cosigS seed k ⟨z, hashS z⟩).sig := small_of seed (z % 16) (by omega) (by omega) _

/-- All are asked at once, and planned anew. -/
def startM (k : Nat) (r : Int) : List Ent := (List.range k).map (fun i : Nat => ⟨r, (k : Int) + i, i⟩)
def startQ (k : Nat) : List (Int × Int) := (List.range k).map (fun i : Nat => ((i : Int), 0))
def startD (P : PolD) (s z : SgD) (k : Nat) (r : Int) : FdD := ⟨P, r, startM k r, 2 * (k : Int), List.replicate k ⟨0, 1, false⟩, s, true, [], z, []⟩
theorem asks_start (P : PolD) (s : SgD) (k : Nat) (h1 : 1 ≤ k) (h3 : k ≤ 3) (hw : P.wits.length = k) (r : Int) (hr1 : 1 ≤ r) (hr9 : r ≤ 9) :
    stepD (offD (fdNew P r) s 0) 0 = startD P s zSg k r ∧ reqL (offD (fdNew P r) s 0) 0 = startQ k := by
  unfold offD fdNew
  dsimp only
  rw [hw]
  generalize zSg = z
  obtain rfl | rfl | rfl | rfl | rfl | rfl | rfl | rfl | rfl : r = 1 ∨ r = 2 ∨ r = 3 ∨ r = 4 ∨ r = 5 ∨ r = 6 ∨ r = 7 ∨ r = 8 ∨ r = 9 := by omega
  all_goals
    obtain rfl | rfl | rfl : k = 1 ∨ k = 2 ∨ k = 3 := by omega
    all_goals exact ⟨rfl, rfl⟩
/-- Behind the answers of the first j witnesses, but for the quiet one. -/
def askN (q : Nat) (cg : Nat → CgD) (d : FdD) : Nat → FdD
  | 0 => d
  | j + 1 => if j = q then askN q cg d j else keep0 (askN q cg d j) j (cg j)
theorem askN_any (q : Nat) (cg : Nat → CgD) (d : FdD) : ∀ j, (askN q cg d j).p = d.p ∧ (askN q cg d j).has = d.has ∧ (askN q cg d j).cur = d.cur ∧ (askN q cg d j).enough = d.enough ∧ (askN q cg d j).done = d.done ∧ (askN q cg d j).retry = d.retry
  | 0 => ⟨rfl, rfl, rfl, rfl, rfl, rfl⟩
  | j + 1 => by
    obtain ⟨a, b, c, e, f, g⟩ := askN_any q cg d j
    unfold askN
    split
    · exact ⟨a, b, c, e, f, g⟩
    · exact ⟨a, b, c, e, f, g⟩
theorem askN_J (q : Nat) (cg : Nat → CgD) (d : FdD) {p : PolD} {retry : Int} {n B : Nat} (h : FdJ d p retry n B) : ∀ j, FdJ (askN q cg d j) p retry n B
  | 0 => h
  | j + 1 => by
    unfold askN
    split
    · exact askN_J q cg d h j
    · exact (askN_J q cg d h j).keep0 j (cg j)
theorem askN_sm (q : Nat) (cg : Nat → CgD) (hc : ∀ i, SmallSig (cg i).sig) (d : FdD) (h : ∀ g ∈ d.kept, SmallSig g.sig) : ∀ j, ∀ g ∈ (askN q cg d j).kept, SmallSig g.sig
  | 0 => h
  | j + 1 => by
    unfold askN
    split
    · exact askN_sm q cg hc d h j
    · intro g hg
      rcases List.mem_append.1 (show g ∈ (askN q cg d j).kept ++ [cg j] from hg) with hg | hg
      · exact askN_sm q cg hc d h j g hg
      · rw [List.mem_singleton.1 hg]; exact hc j
theorem askN_kept (q : Nat) (cg : Nat → CgD) (d : FdD) (h : d.kept = []) : ∀ j, (askN q cg d j).kept.length = if q < j then j - 1 else j
  | 0 => by rw [show askN q cg d 0 = d from rfl, h]; simp
  | j + 1 => by
    unfold askN
    have ih := askN_kept q cg d h j
    split
    · rename_i e; subst e; rw [ih]; simp
    · show ((askN q cg d j).kept ++ [cg j]).length = _
      rw [List.length_append, ih]
      simp only [List.length_singleton]
      split <;> split <;> omega
theorem askN_l (q : Nat) (cg : Nat → CgD) (d : FdD) : ∀ j i, (j ≤ i ∨ i = q) → wAt (askN q cg d j).l i = wAt d.l i
  | 0, i, _ => rfl
  | j + 1, i, h => by
    unfold askN
    split
    · rename_i e
      exact askN_l q cg d j i (by omega)
    · rename_i e
      show wAt ((askN q cg d j).l.set j _) i = _
      rw [wAt_set, if_neg (by omega)]
      exact askN_l q cg d j i (by omega)
theorem askN_m (q : Nat) (cg : Nat → CgD) (d : FdD) : ∀ j, (askN q cg d j).m = d.m.filter (fun x => (List.range j).all (fun i => decide (i = q) || (x.wh != (i : Int))))
  | 0 => by show d.m = _; rw [List.filter_eq_self.2]; intro x hx; rfl
  | j + 1 => by
    have ih := askN_m q cg d j
    unfold askN
    split
    · rename_i e
      rw [ih]
      congr 1
      funext x
      rw [List.range_succ, List.all_append]
      simp [e]
    · rename_i e
      show keepW (j : Int) (askN q cg d j).m = _
      unfold keepW
      rw [ih, List.filter_filter]
      congr 1
      funext x
      rw [List.range_succ, List.all_append]
      simp [e, Bool.and_comm]
theorem start_l (P : PolD) (s z : SgD) (k : Nat) (r : Int) (i : Nat) (h : i < k) : wAt (startD P s z k r).l i = ⟨0, 1, false⟩ := by
  show wAt (List.replicate k _) i = _
  unfold wAt
  rw [List.getD_eq_getElem?_getD, List.getElem?_replicate, if_pos h]
  rfl
theorem start_end (P : PolD) (s z : SgD) (k : Nat) (h1 : 1 ≤ k) (h3 : k ≤ 3) (r : Int) (q : Nat) (hq : q < k) (cg : Nat → CgD) : (askN q cg (startD P s z k r) k).m = [⟨r, (k : Int) + q, q⟩] := by
  rw [askN_m]
  show (startM k r).filter _ = _
  obtain rfl | rfl | rfl : k = 1 ∨ k = 2 ∨ k = 3 := by omega
  · obtain rfl : q = 0 := by omega
    rfl
  · obtain rfl | rfl : q = 0 ∨ q = 1 := by omega
    all_goals rfl
  · obtain rfl | rfl | rfl : q = 0 ∨ q = 1 ∨ q = 2 := by omega
    all_goals rfl
/-- What stands ahead of a round, from the second on: the quiet witness alone is planned, soon enough. -/
structure AskQ (P : PolD) (s : SgD) (r : Int) (k q : Nat) (now last : Int) (d : FdD) : Prop where
  has : d.has = true
  cur : d.cur = s
  en : d.enough = []
  dn : d.done = zSg
  kl : d.kept.length + 1 = k
  ks : ∀ g ∈ d.kept, SmallSig g.sig
  wt : ∃ T, 1 ≤ T ∧ wAt d.l q = ⟨0, T, false⟩
  ml : ∃ t o, d.m = [⟨t, o, q⟩] ∧ now ≤ t ∧ t ≤ last + 8 * r
  la : 0 ≤ last ∧ last < now
theorem askq_start (P : PolD) (s : SgD) (k : Nat) (h1 : 1 ≤ k) (h3 : k ≤ 3) (r : Int) (hr1 : 1 ≤ r) (q : Nat) (hq : q < k) (cg : Nat → CgD) (hc : ∀ i, SmallSig (cg i).sig) : AskQ P s r k q 1 0 (askN q cg (startD P s zSg k r) k) := by
  obtain ⟨a, b, c, e, f, g⟩ := askN_any q cg (startD P s zSg k r) k
  refine ⟨b, c, e, f, ?_, askN_sm q cg hc _ (fun g hg => absurd hg (by simp [startD])) k, ⟨1, by decide, ?_⟩, ⟨r, _, start_end P s zSg k h1 h3 r q hq cg, by omega, by omega⟩, by omega, by omega⟩
  · rw [askN_kept q cg _ rfl, if_pos hq]; omega
  · rw [askN_l q cg _ k q (.inr rfl)]; exact start_l P s zSg k r q hq
theorem again_ge (r T : Int) (hr : 1 ≤ r) (h : 1 ≤ T) : r + 1 ≤ againZ r T ∧ againZ r T ≤ 8 * r := by
  unfold againZ
  by_cases h3 : 3 < T
  · rw [if_pos h3]; show r + 1 ≤ r * 8 ∧ r * 8 ≤ 8 * r; omega
  · rw [if_neg h3]
    obtain rfl | rfl | rfl : T = 1 ∨ T = 2 ∨ T = 3 := by omega
    · show r + 1 ≤ r * 2 ∧ r * 2 ≤ 8 * r; omega
    · show r + 1 ≤ r * 4 ∧ r * 4 ≤ 8 * r; omega
    · show r + 1 ≤ r * 8 ∧ r * 8 ≤ 8 * r; omega
theorem ask_round {P : PolD} {s : SgD} {r : Int} {k q B : Nat} {now last : Int} {d : FdD} (h : AskQ P s r k q now last d) (hj : FdJ d P r k B) (hr : 1 ≤ r) (hq : q < k) :
    (reqL d now = [] ∧ stepD d now = d ∧ AskQ P s r k q (now + 1) last d ∧ now - last ≤ 8 * r) ∨ (reqL d now = [((q : Int), 0)] ∧ AskQ P s r k q (now + 1) now (stepD d now)) := by
  obtain ⟨t, o, hm, ht1, ht2⟩ := h.ml
  obtain ⟨T, hT, hw⟩ := h.wt
  have hla := h.la
  by_cases hd : t ≤ now
  · right
    have ew : whoL d.m now = [q] := by
      unfold whoL dueL
      rw [hm]
      simp [hd]
    have en : dueN d.m now = 1 := by
      unfold dueN dueL
      rw [hm]
      simp [hd]
    have er : reqL d now = [((q : Int), 0)] := by
      unfold reqL
      rw [ew]
      simp [hw]
    have es : stepD d now = st1 now { d with m := [] } q := by
      unfold stepD
      rw [ew, en, hm]
      rfl
    refine ⟨er, ?_⟩
    rw [es]
    obtain ⟨g1, g2⟩ := again_ge r T hr hT
    have hlen := hj.len
    refine ⟨h.has, h.cur, h.en, h.dn, h.kl, h.ks, ⟨T + 1, by omega, ?_⟩, ⟨now + againZ r T, d.ord, ?_, by omega, by omega⟩, by omega, by omega⟩
    · show wAt (d.l.set q ⟨(wAt d.l q).size, (wAt d.l q).tries + 1, (wAt d.l q).kept⟩) q = _
      rw [wAt_set, if_pos ⟨rfl, by omega⟩, hw]
    · show insE ⟨now + againZ d.retry (wAt d.l q).tries, d.ord, (q : Int)⟩ (keepW (q : Int) []) = _
      rw [hw, hj.re]
      rfl
  · left
    have ew : whoL d.m now = [] := by
      unfold whoL dueL
      rw [hm]
      simp [hd]
    have en : dueN d.m now = 0 := by
      unfold dueN dueL
      rw [hm]
      simp [hd]
    refine ⟨by unfold reqL; rw [ew]; rfl, ?_, ⟨h.has, h.cur, h.en, h.dn, h.kl, h.ks, h.wt, ⟨t, o, hm, by omega, ht2⟩, by omega, by omega⟩, by omega⟩
    unfold stepD
    rw [ew, en]
    rfl
theorem FdJ.keepD {d : FdD} {p : PolD} {retry : Int} {n B : Nat} (h : FdJ d p retry n B) (k : Nat) (g : CgD) : FdJ (keepD d k g) p retry n B := by
  have h0 := h.keep0 k g
  unfold Go.Proofs.YtlkgeifmppadmaaGreat.keepD
  split
  · exact ⟨h0.pol, h0.re, h0.len, h0.wh, h0.ml, h0.ord, h0.tr, h0.sm⟩
  · exact h0
/-- The quiet one answers at last: it is done, nothing is planned. -/
theorem ask_end {P : PolD} {s : SgD} {r : Int} {k q : Nat} {now last : Int} {d : FdD} (h : AskQ P s r k q now last d) (hp : d.p.quorum = (k : Int)) (g : CgD) (z : Int) :
    (keepD d q g).done = s ∧ (keepD d q g).enough = d.kept ++ [g] ∧ (d.kept ++ [g]).length = k ∧ (keepD d q g).m = [] ∧ reqL (keepD d q g) z = [] := by
  obtain ⟨t, o, hm, ht1, ht2⟩ := h.ml
  have hkl := h.kl
  have hq : d.p.quorum ≤ ((d.kept.length + 1 : Nat) : Int) := by omega
  have e : keepD d q g = { keep0 d q g with done := d.cur, enough := d.kept ++ [g] } := by unfold keepD; rw [if_pos hq]
  have em : (keepD d q g).m = [] := by
    rw [e]
    show keepW (q : Int) d.m = []
    rw [hm]
    simp [keepW]
  refine ⟨by rw [e]; exact h.cur, by rw [e], by rw [List.length_append]; simpa using hkl, em, ?_⟩
  unfold reqL whoL dueL
  rw [em]
  rfl
end Go.Proofs.YtlkgeifmppadmaaGreat
namespace Go.Proofs.YtlkgeifmppadmaaGreat
open Go.RowKit
set_option linter.unusedVariables false
set_option linter.unusedSimpArgs false

set_option maxRecDepth 100000 in
set_option maxHeartbeats 8000000 in
theorem reply_kv (Z : Nat → Prop) (f : Nat) (d : FdD) (r : FdR) (us es : List Value) (v : Value) (g : CgD) (k : Nat) (size now : Int) (hp : SmallPol d.p) (hr : d.cur.ck.root.length ≤ 100000000) (hs : SmallSig g.sig) (w : World) (hok : FdOk Z w f d r us es) (hv : CgV w v g) (hgw : g.wit = (k : Int)) (hhas : d.has = true) (hkl : k < d.l.length) (hke : (wAt d.l k).kept = false) (hyes : cgVerB d.p d.cur.ck g = true) (hkk : d.kept.length ≤ 1000) (hm : d.m.length ≤ 1000000) (hl : d.l.length ≤ 1000) (hZ : ∀ g, Z g → g < w.heap.size) :
    Calls Tryz.prog 12 #[.pointer (some ⟨f, 0, none⟩), .int .i64 k, v, .int .i64 size, .int .i64 now] w fun e w' => e = .returned (.bool true) ∧ FdAt (Wide Z w w') w' f (keepD d k g) ∧ Chg w w' Z := by
  have HZ := Lib.hid hZ
  have HGW := Lib.hid hgw
  have HYES := Lib.hid hyes
  have HVF := Lib.hid (fun (wz : World) (vp vc vg : Value) (z1 : PolV wz vp d.p) (z2 : CkV wz vc d.cur.ck) (z3 : CgV wz vg g) => pcgverify_any vp vc vg d.p d.cur.ck g hp hr hs wz z1 z2 z3)
  have HKP := Lib.hid (fun (wz : World) (v : Value) (z1 : FdOk Z wz f d r us es) (z2 : CgV wz v g) (z3 : ∀ g, Z g → g < wz.heap.size) => keep_any Z f d r us es v g k hs hkl hkk hm wz z1 z2 z3)
  generalize hKD : keepD d k g = KD at *
  obtain ⟨p1, q1, rfl, h1, h2⟩ := hv
  obtain ⟨P, cp, rfl⟩ := h1.form
  obtain ⟨Q, cq, rfl⟩ := h2.form
  obtain ⟨PA, pc, hpl⟩ := hok.tx.pl.1.form
  obtain ⟨PW, pwc, hpw⟩ := hok.tx.pw.rws.form
  obtain ⟨RA, rc, hcr⟩ := hok.tx.cr.1.form
  have HPL := Lib.hid (And.intro hpl (And.intro hpw hcr))
  have HX := Lib.hid (And.intro h1 h2)
  clear h1 h2 hp hr hs hyes hZ hpl hpw hcr hKD hkk hm hgw
  have hb0 := (Below.refl w.heap.size w).alloc (Nat.le_refl _) (.cells #[.int .i64 g.wit, .int .i64 g.sig.index, .slice P g.sig.parts.length cp, .slice Q g.sig.path.length cq] 47)
  have hk0 := Blk.new w 47 [.int .i64 g.wit, .int .i64 g.sig.index, .slice P g.sig.parts.length cp, .slice Q g.sig.path.length cq]
  have hok1 := hok.below hb0
  have H1 := Lib.hid (And.intro hk0 (And.intro hb0 hok1))
  have f11 := hok1.blk.cell 11 _ rfl
  have f5 := cell5 hok1.blk
  have hfl := hok1.blk.lt
  have hfw := hok.blk.lt
  have HOK := Lib.hid hok
  rw [hhas] at f11
  have hc := cellsW_at d.l k hkl
  have p2 := H1.out.2.2.wt.cell _ _ hc.2.2
  rw [← wAt_eq d.l k hkl, hke] at p2
  have hlb := H1.out.2.2.wt.lt
  have hki : (k : Int) < (d.l.length : Int) := by omega
  clear hc hok hok1 hb0 hk0 hhas hke
  go_enter Tryz.func12, Tryz.ntmps12
  go_wp2
  refine code_at (fun w1 => Blk w1 w.heap.size 47 [.int .i64 g.wit, .int .i64 g.sig.index, .slice P g.sig.parts.length cp, .slice Q g.sig.path.length cq] ∧ Below w.heap.size w w1 ∧ FdOk Z w1 f d r us es) H1.out ?_
  rintro w1 ⟨k0, kb, kd⟩
  have c0 := k0.cell 0 _ rfl
  have c1 := k0.cell 1 _ rfl
  have c2 := k0.cell 2 _ rfl
  have c3 := k0.cell 3 _ rfl
  have g0 : w1.cell? ⟨f, 0, none⟩ = some (.slice PA d.p.log.length pc) := by rw [← HPL.out.1]; exact kd.blk.cell 0 _ rfl
  have g1 : w1.cell? ⟨f, 1, none⟩ = some (.slice PW d.p.wits.length pwc) := by rw [← HPL.out.2.1]; exact kd.blk.cell 1 _ rfl
  have g2 : w1.cell? ⟨f, 2, none⟩ = some (.int .i64 d.p.quorum) := kd.blk.cell 2 _ rfl
  have g6 : w1.cell? ⟨f, 6, none⟩ = some (.int .i64 d.cur.ck.num) := kd.blk.cell 6 _ rfl
  have g7 : w1.cell? ⟨f, 7, none⟩ = some (.slice RA d.cur.ck.root.length rc) := by rw [← HPL.out.2.2]; exact kd.blk.cell 7 _ rfl
  have hfl1 := kd.blk.lt
  have hkl1 := k0.lt
  have H2 := Lib.hid (And.intro k0 (And.intro kb kd))
  clear k0 kb kd f11 f5 p2 hlb hfl hfw
  rw [HGW.out] at c0
  refine wp_region_held_drew (S := fun w' => w'.cell? ⟨w.heap.size, 0, none⟩ = some (.int .i64 k) ∧ w'.cell? ⟨w.heap.size, 1, none⟩ = some (.int .i64 g.sig.index) ∧ w'.cell? ⟨w.heap.size, 2, none⟩ = some (.slice P g.sig.parts.length cp) ∧ w'.cell? ⟨w.heap.size, 3, none⟩ = some (.slice Q g.sig.path.length cq) ∧ w'.cell? ⟨f, 0, none⟩ = some (.slice PA d.p.log.length pc) ∧ w'.cell? ⟨f, 1, none⟩ = some (.slice PW d.p.wits.length pwc) ∧ w'.cell? ⟨f, 2, none⟩ = some (.int .i64 d.p.quorum) ∧ w'.cell? ⟨f, 6, none⟩ = some (.int .i64 d.cur.ck.num) ∧ w'.cell? ⟨f, 7, none⟩ = some (.slice RA d.cur.ck.root.length rc)) (by kernel_rfl) ?_ (fun hHeld => ?_)
  · exact ⟨c0, c1, c2, c3, g0, g1, g2, g6, g7⟩
  refine take_yes 0 40 rfl rfl (by kernel_rfl) (by kernel_rfl) (by kernel_rfl) (fun _ _ _ h => h) (by assumption) (by rfl) (v := ?_) ?_ ?_
  rotate_left 1
  · (intro w hSw; (try dsimp only at hSw); go_simp; try with_reducible rfl)
  simp only [List.setIfInBounds_toArray, List.set_cons_zero, List.set_cons_succ]
  refine take_yes 1 41 rfl rfl (by kernel_rfl) (by kernel_rfl) (by kernel_rfl) (fun _ _ _ h => h) (by assumption) (by rfl) (v := ?_) ?_ ?_
  rotate_left 1
  · (intro w hSw; (try dsimp only at hSw); go_simp; try with_reducible rfl)
  simp only [List.setIfInBounds_toArray, List.set_cons_zero, List.set_cons_succ]
  refine take_yes 2 42 rfl rfl (by kernel_rfl) (by kernel_rfl) (by kernel_rfl) (fun _ _ _ h => h) (by assumption) (by rfl) (v := ?_) ?_ ?_
  rotate_left 1
  · (intro w hSw; (try dsimp only at hSw); go_simp; try with_reducible rfl)
  simp only [List.setIfInBounds_toArray, List.set_cons_zero, List.set_cons_succ]
  refine take_yes 3 43 rfl rfl (by kernel_rfl) (by kernel_rfl) (by kernel_rfl) (fun _ _ _ h => h) (by assumption) (by rfl) (v := ?_) ?_ ?_
  rotate_left 1
  · (intro w hSw; (try dsimp only at hSw); go_simp; try with_reducible rfl)
  simp only [List.setIfInBounds_toArray, List.set_cons_zero, List.set_cons_succ]
  refine take_yes 4 44 rfl rfl (by kernel_rfl) (by kernel_rfl) (by kernel_rfl) (fun _ _ _ h => h) (by assumption) (by rfl) (v := ?_) ?_ ?_
  rotate_left 1
  · (intro w hSw; (try dsimp only at hSw); go_simp; try with_reducible rfl)
  simp only [List.setIfInBounds_toArray, List.set_cons_zero, List.set_cons_succ]
  refine take_yes 5 45 rfl rfl (by kernel_rfl) (by kernel_rfl) (by kernel_rfl) (fun _ _ _ h => h) (by assumption) (by rfl) (v := ?_) ?_ ?_
  rotate_left 1
  · (intro w hSw; (try dsimp only at hSw); go_simp; try with_reducible rfl)
  simp only [List.setIfInBounds_toArray, List.set_cons_zero, List.set_cons_succ]
  refine take_yes 6 46 rfl rfl (by kernel_rfl) (by kernel_rfl) (by kernel_rfl) (fun _ _ _ h => h) (by assumption) (by rfl) (v := ?_) ?_ ?_
  rotate_left 1
  · (intro w hSw; (try dsimp only at hSw); go_simp; try with_reducible rfl)
  simp only [List.setIfInBounds_toArray, List.set_cons_zero, List.set_cons_succ]
  refine take_yes 7 47 rfl rfl (by kernel_rfl) (by kernel_rfl) (by kernel_rfl) (fun _ _ _ h => h) (by assumption) (by rfl) (v := ?_) ?_ ?_
  rotate_left 1
  · (intro w hSw; (try dsimp only at hSw); go_simp; try with_reducible rfl)
  simp only [List.setIfInBounds_toArray, List.set_cons_zero, List.set_cons_succ]
  refine take_yes 8 48 rfl rfl (by kernel_rfl) (by kernel_rfl) (by kernel_rfl) (fun _ _ _ h => h) (by assumption) (by rfl) (v := ?_) ?_ ?_
  rotate_left 1
  · (intro w hSw; (try dsimp only at hSw); go_simp; try with_reducible rfl)
  simp only [List.setIfInBounds_toArray, List.set_cons_zero, List.set_cons_succ]
  refine take_yes 9 49 rfl rfl (by kernel_rfl) (by kernel_rfl) (by kernel_rfl) (fun _ _ _ h => h) (by assumption) (by rfl) (v := ?_) ?_ ?_
  rotate_left 1
  · (intro w hSw; (try dsimp only at hSw); go_simp; try with_reducible rfl)
  simp only [List.setIfInBounds_toArray, List.set_cons_zero, List.set_cons_succ]
  refine take_yes 10 50 rfl rfl (by kernel_rfl) (by kernel_rfl) (by kernel_rfl) (fun _ _ _ h => h) (by assumption) (by rfl) (v := ?_) ?_ ?_
  rotate_left 1
  · (intro w hSw; (try dsimp only at hSw); go_simp; try with_reducible rfl)
  simp only [List.setIfInBounds_toArray, List.set_cons_zero, List.set_cons_succ]
  refine take_yes 11 51 rfl rfl (by kernel_rfl) (by kernel_rfl) (by kernel_rfl) (fun _ _ _ h => h) (by assumption) (by rfl) (v := ?_) ?_ ?_
  rotate_left 1
  · (intro w hSw; (try dsimp only at hSw); go_simp; try with_reducible rfl)
  simp only [List.setIfInBounds_toArray, List.set_cons_zero, List.set_cons_succ]
  refine take_yes 12 52 rfl rfl (by kernel_rfl) (by kernel_rfl) (by kernel_rfl) (fun _ _ _ h => h) (by assumption) (by rfl) (v := ?_) ?_ ?_
  rotate_left 1
  · (intro w hSw; (try dsimp only at hSw); go_simp; try with_reducible rfl)
  simp only [List.setIfInBounds_toArray, List.set_cons_zero, List.set_cons_succ]
  refine take_yes 13 53 rfl rfl (by kernel_rfl) (by kernel_rfl) (by kernel_rfl) (fun _ _ _ h => h) (by assumption) (by rfl) (v := ?_) ?_ ?_
  rotate_left 1
  · (intro w hSw; (try dsimp only at hSw); go_simp; try with_reducible rfl)
  simp only [List.setIfInBounds_toArray, List.set_cons_zero, List.set_cons_succ]
  refine take_yes 14 54 rfl rfl (by kernel_rfl) (by kernel_rfl) (by kernel_rfl) (fun _ _ _ h => h) (by assumption) (by rfl) (v := ?_) ?_ ?_
  rotate_left 1
  · (intro w hSw; (try dsimp only at hSw); go_simp; try with_reducible rfl)
  simp only [List.setIfInBounds_toArray, List.set_cons_zero, List.set_cons_succ]
  refine wpAnyH_ready (rs := [15]) (by kernel_rfl) (by simp) ?_
  refine AllReadyH.cons rfl (fun K hK => ?_) AllReadyH.nil
  -- 15:  dst := some 55, op := Op.call  callee := Callee.value (Operand.func 37), args := #[Operand.tmp 48, Operand.tmp 53, Operand.tmp 
  go_simp
  go_at_call 30
  refine (HVF.out w1.drew _ _ _ ⟨_, _, rfl, by rw [← HPL.out.1]; exact H2.out.2.2.tx.pl.1.below (Below.refl _ _).drew, by rw [← HPL.out.2.1]; exact H2.out.2.2.tx.pw.rws.below (Below.refl _ _).drew⟩ ⟨_, rfl, by rw [← HPL.out.2.2]; exact H2.out.2.2.tx.cr.1.below (Below.refl _ _).drew⟩ ⟨_, _, by rw [HGW.out], HX.out.1.below H2.out.2.1.drew, HX.out.2.below H2.out.2.1.drew⟩).mono ?_
  rw [HYES.out]
  rintro e w2 ⟨rfl, h2'⟩
  have h2 : Below w1.heap.size w1 w2 := ⟨h2'.os, h2'.tape, h2'.output, h2'.size, h2'.block⟩
  have kA := H2.out.1.below h2
  have kF := H2.out.2.2.blk.below h2
  have j0 := kA.cell 0 _ rfl
  rw [HGW.out] at j0
  have j1 := kA.cell 1 _ rfl
  have j2 := kA.cell 2 _ rfl
  have j3 := kA.cell 3 _ rfl
  have i0 : w2.cell? ⟨f, 0, none⟩ = some (.slice PA d.p.log.length pc) := by rw [← HPL.out.1]; exact kF.cell 0 _ rfl
  have i1 : w2.cell? ⟨f, 1, none⟩ = some (.slice PW d.p.wits.length pwc) := by rw [← HPL.out.2.1]; exact kF.cell 1 _ rfl
  have i2 : w2.cell? ⟨f, 2, none⟩ = some (.int .i64 d.p.quorum) := kF.cell 2 _ rfl
  have i6 : w2.cell? ⟨f, 6, none⟩ = some (.int .i64 d.cur.ck.num) := kF.cell 6 _ rfl
  have i7 : w2.cell? ⟨f, 7, none⟩ = some (.slice RA d.cur.ck.root.length rc) := by rw [← HPL.out.2.2]; exact kF.cell 7 _ rfl
  have hkl2 := kA.lt
  have H3 := Lib.hid (And.intro h2 (And.intro kA (H2.out.2.2.below h2)))
  clear h2 h2' kA kF
  go_wp2_with fail
  refine hK.out _ _ ⟨j0, j1, j2, j3, i0, i1, i2, i6, i7⟩ (fun hHeld15 => ?_)
  clear hK K
  try simp only [Act.put, List.setIfInBounds_toArray, List.set_cons_zero, List.set_cons_succ]
  refine take_yes 16 56 rfl rfl (by kernel_rfl) (by kernel_rfl) (by kernel_rfl) (fun _ _ _ h => h) (by assumption) (by rfl) (v := ?_) ?_ ?_
  rotate_left 1
  · (intro w hSw; (try dsimp only at hSw); go_simp; try with_reducible rfl)
  simp only [List.setIfInBounds_toArray, List.set_cons_zero, List.set_cons_succ]
  refine wpAnyH_done (by kernel_rfl) ?_ _
  clear hHeld hHeld15 c0 c1 c2 c3 g0 g1 g2 g6 g7 i0 i1 i2 i6 i7
  go_wp2_with fail
  refine (HKP.out _ _ H3.out.2.2 ⟨_, _, by rw [HGW.out], (HX.out.1.below H2.out.2.1).below H3.out.1, (HX.out.2.below H2.out.2.1).below H3.out.1⟩ (fun g hg => by have := HZ.out g hg; have := H2.out.2.1.size; have := H3.out.1.size; omega)).mono ?_
  rintro e w4 ⟨rfl, h1, h2⟩
  have H4 := Lib.hid (And.intro h1 h2)
  clear h1 h2
  go_wp2
  go_ret
  have hs1 := H2.out.2.1.size
  have hs2 := H3.out.1.size
  obtain ⟨r4, us4, es4, h9⟩ := H4.out.1
  refine ⟨rfl, ⟨r4, us4, es4, h9.wide (fun x hx => by
    rcases hx with hx | hx
    · exact .inl hx
    · exact .inr ⟨by have : w2.heap.size ≤ x := hx.1; omega, hx.2⟩)⟩, ?_⟩
  have c1 : Chg w w2 Z := ((Chg.refl w Z).trans (Chg.of_below (S := fun _ => False) H2.out.2.1) (fun _ _ h => h.elim)).trans (Chg.of_below (S := fun _ => False) H3.out.1) (fun _ _ h => h.elim)
  exact c1.trans H4.out.2 (fun x _ e => e)
/-- Is a cosignature kept? -/
def hearB (d : FdD) (wit : Int) (g : CgD) : Bool := d.has && (decide (0 ≤ wit) && (decide (wit < (d.l.length : Int)) && (!(wAt d.l wit.toNat).kept && (decide (g.wit = wit) && cgVerB d.p d.cur.ck g))))
/-- Any reply: is it taken, and what it makes of the feeder. -/
def anyRB (d : FdD) (wit : Int) (g : CgD) (size : Int) : Bool := hearB d wit g || repB d wit size
def anyRN (d : FdD) (wit : Int) (g : CgD) (size now : Int) : FdD := if hearB d wit g = true then keepD d wit.toNat g else repN d wit size now
theorem reply_any (Z : Nat → Prop) (f : Nat) (d : FdD) (v : Value) (g : CgD) (wit size now : Int) (hp : SmallPol d.p) (hr : d.cur.ck.root.length ≤ 100000000) (hs : SmallSig g.sig) (hkk : d.kept.length ≤ 1000) (hm : d.m.length ≤ 1000000) (ho : d.ord ≤ 100000000) (hl : d.l.length ≤ 1000) (w : World) (hok : FdAt Z w f d) (hv : CgV w v g) (hZ : ∀ g, Z g → g < w.heap.size) :
    Calls Tryz.prog 12 #[.pointer (some ⟨f, 0, none⟩), .int .i64 wit, v, .int .i64 size, .int .i64 now] w fun e w' => e = .returned (.bool (anyRB d wit g size)) ∧ FdAt (Wide Z w w') w' f (anyRN d wit g size now) ∧ Chg w w' Z := by
  obtain ⟨r, us, es, hok⟩ := hok
  unfold anyRB anyRN
  cases hh : hearB d wit g with
  | true =>
    have h9 := hh
    simp only [hearB, Bool.and_eq_true, decide_eq_true_eq, Bool.not_eq_true'] at h9
    obtain ⟨a1, a2, a3, a4, a5, a6⟩ := h9
    obtain ⟨k, rfl⟩ := Int.eq_ofNat_of_zero_le a2
    rw [Int.toNat_natCast] at a4 ⊢
    exact reply_kv Z f d r us es v g k size now hp hr hs w hok hv a5 a1 (by omega) a4 a6 hkk hm hl hZ
  | false =>
    refine (reply_nv Z f d r us es v g wit size now hp hr hs w hok hv (fun b1 b2 b3 b4 b5 => ?_) hm ho hl hZ).mono (fun e w' h => h)
    cases hc : cgVerB d.p d.cur.ck g with
    | false => rfl
    | true =>
      have : hearB d wit g = true := by
        unfold hearB
        rw [b1, decide_eq_true b2, decide_eq_true b3, b4, decide_eq_true b5, hc]
        rfl
      rw [this] at hh
      exact absurd hh (by decide)
end Go.Proofs.YtlkgeifmppadmaaGreat
namespace Go.Proofs.YtlkgeifmppadmaaGreat
open Go.RowKit
set_option linter.unusedVariables false
set_option linter.unusedSimpArgs false

theorem FdJ.up {d : FdD} {p : PolD} {retry : Int} {n A B : Nat} (h : FdJ d p retry n A) (hAB : A ≤ B) : FdJ d p retry n B :=
  ⟨h.pol, h.re, h.len, h.wh, by have := h.ml; omega, by have := h.ord; omega, fun k => by have := h.tr k; exact ⟨this.1, by have := this.2; omega⟩, h.sm⟩
/-- The newest that the feeder took is the law's most. -/
def OfI (d : FdD) (M : Int) : Prop := (M = -1 ∧ d.has = false) ∨ (0 ≤ M ∧ d.has = true ∧ d.cur.ck.num = M)
theorem OfI.new (P : PolD) (retry : Int) : OfI (fdNew P retry) (-1) := .inl ⟨rfl, rfl⟩
theorem OfI.off {d : FdD} {M : Int} (h : OfI d M) {P : PolD} {retry : Int} {n K : Nat} (hj : FdJ d P retry n K) (s : SgD) (h1 : ckVerB P.log s = true) (h0 : 0 ≤ s.ck.num) : offB d s = decide (M < s.ck.num) := by
  unfold offB
  rw [hj.pol, h1]
  rcases h with ⟨rfl, h2⟩ | ⟨h2, h3, h4⟩
  · rw [h2]; simp; omega
  · rw [h3, h4]
    by_cases hm : M < s.ck.num
    · simp [hm]
    · have : s.ck.num ≤ M := by omega
      simp [this, hm]
theorem OfI.bad {d : FdD} {P : PolD} {retry : Int} {n K : Nat} (hj : FdJ d P retry n K) (s : SgD) (h1 : ckVerB P.log s = false) : offB d s = false := by
  unfold offB
  rw [hj.pol, h1]; rfl
theorem OfI.taken {d : FdD} (s : SgD) (now : Int) (h0 : 0 ≤ s.ck.num) : OfI (stepD (offD d s now) now) s.ck.num := by
  obtain ⟨h1, h2⟩ := step_has (offD d s now) now
  exact .inr ⟨h0, by rw [h1]; rfl, by rw [h2]; rfl⟩
theorem OfI.has {d : FdD} {M : Int} (h : OfI d M) (h0 : 0 ≤ M) : d.has = true ∧ d.cur.ck.num = M := by
  rcases h with ⟨rfl, _⟩ | ⟨_, h3, h4⟩
  · omega
  · exact ⟨h3, h4⟩
/-- What a round of the law starts from. -/
structure OfS (S : Nat → Prop) (B : Nat) (w wr : World) (v : Value) (n f : Nat) (P : PolD) (M : Int) (i : Nat) (d : FdD) : Prop where
  law : LawS S B w wr v (n + 1) f d
  jrn : FdJ d P 7 n (2 * i)
  oi : OfI d M
theorem dueN_ml {d : FdD} {p : PolD} {retry : Int} {n K : Nat} (h : FdJ d p retry n K) (hn : n ≤ 4) (s : SgD) (now : Int) : dueN (offD d s now).m now ≤ 8 := by
  have h1 := off_step d s now (by rw [h.len]; exact h.wh)
  rw [reqL_dueN, h1, h.len]
  omega
theorem current_of {M : Int} (B : Nat) (f : Nat) (d : FdD) (p : PolD) (retry : Int) (n K : Nat) (hj : FdJ d p retry n K) (ho : OfI d M) (h0 : 0 ≤ M) (w : World) (h : FS B w f d) :
    Calls Tryz.prog 40 #[.pointer (some ⟨f, 0, none⟩)] w fun e w' => ∃ R rn rc ix P pn pc Q qn qc, e = .returned (.tuple #[.agg #[.int .i64 M, .slice R rn rc, .int .i64 ix, .slice P pn pc, .slice Q qn qc], .bool true]) ∧ Below w.heap.size w w' := by
  obtain ⟨h1, h2⟩ := ho.has h0
  refine (current_fs B f d p retry n K hj w h).mono ?_
  rintro e w' ⟨v, rfl, ⟨rt, p, q, rfl, a1, a2, a3⟩, hb⟩
  obtain ⟨R, cr, rfl⟩ := a1.1.form
  obtain ⟨P, cp, rfl⟩ := a2.rws.form
  obtain ⟨Q, cq, rfl⟩ := a3.rws.form
  rw [h1, h2]
  exact ⟨_, _, _, _, _, _, _, _, _, _, rfl, hb⟩
end Go.Proofs.YtlkgeifmppadmaaGreat
namespace Go.Proofs.YtlkgeifmppadmaaGreat
open Go.RowKit
set_option linter.unusedVariables false
set_option linter.unusedSimpArgs false

set_option maxRecDepth 100000 in
set_option maxHeartbeats 4000000 in
theorem requests_same (va vb : Value) (l : List (Int × Int)) (hl : l.length ≤ 1000000) (w : World) (ha : Sho w va l.length 2 (reqCells l)) (hb : Sho w vb l.length 2 (reqCells l)) :
    Calls Tryz.prog 37 #[va, vb] w fun e w' => e = .returned (.bool true) ∧ Below w.heap.size w w' := by
  obtain ⟨A, ca, rfl⟩ := ha.form
  obtain ⟨B, cb, rfl⟩ := hb.form
  have HX := Lib.hid (And.intro ha hb)
  clear ha hb
  go_enter Tryz.func37, Tryz.ntmps37
  go_wp2
  go_loopw [5] (fun v wr => ∃ i : Nat, v = .int .i64 i ∧ i ≤ l.length ∧ Hid (Below w.heap.size w wr)) (fun v _ => l.length - (intOf v).toNat)
  case atStart => exact ⟨0, rfl, Nat.zero_le _, Lib.hid (Below.refl _ _)⟩
  case round =>
    obtain ⟨i, rfl, hi, HI⟩ := hrel
    by_cases hlt : i < l.length
    · obtain ⟨ga, oa, rfl, _, hga, hca, _, h5⟩ := HX.out.1.place (by omega)
      obtain ⟨gb, ob, rfl, _, hgb, hcb, _, h6⟩ := HX.out.2.place (by omega)
      obtain ⟨ea, eb⟩ := reqCells_at l i hlt
      have a0 := (HI.out.cell (p := ⟨ga, oa + i * 2, none⟩) hga).trans (h5 _ _ ea)
      have a1 := (HI.out.cell (p := ⟨ga, oa + (i * 2 + 1), none⟩) hga).trans (h5 _ _ eb)
      have b0 := (HI.out.cell (p := ⟨gb, ob + i * 2, none⟩) hgb).trans (h6 _ _ ea)
      have b1 := (HI.out.cell (p := ⟨gb, ob + (i * 2 + 1), none⟩) hgb).trans (h6 _ _ eb)
      rw [← Nat.add_assoc] at a1 b1
      clear h5 h6 ea eb
      generalize l[i].1 = x at *
      generalize l[i].2 = y at *
      go_wp2
      refine wp_region_held_drew (S := fun w' => w'.cell? ⟨ga, oa + i * 2, none⟩ = some (.int .i64 x) ∧ w'.cell? ⟨ga, oa + i * 2 + 1, none⟩ = some (.int .i64 y) ∧ w'.cell? ⟨gb, ob + i * 2, none⟩ = some (.int .i64 x) ∧ w'.cell? ⟨gb, ob + i * 2 + 1, none⟩ = some (.int .i64 y)) (by kernel_rfl) ?_ (fun hHeld => ?_)
      · exact ⟨a0, a1, b0, b1⟩
      refine take_yes 0 17 rfl rfl (by kernel_rfl) (by kernel_rfl) (by kernel_rfl) (fun _ _ _ h => h) (by assumption) (by rfl) (v := ?_) ?_ ?_
      rotate_left 1
      · (intro w hSw; (try dsimp only at hSw); go_simp; try with_reducible rfl)
      simp only [List.setIfInBounds_toArray, List.set_cons_zero, List.set_cons_succ]
      refine take_yes 1 18 rfl rfl (by kernel_rfl) (by kernel_rfl) (by kernel_rfl) (fun _ _ _ h => h) (by assumption) (by rfl) (v := ?_) ?_ ?_
      rotate_left 1
      · (intro w hSw; (try dsimp only at hSw); go_simp; try with_reducible rfl)
      simp only [List.setIfInBounds_toArray, List.set_cons_zero, List.set_cons_succ]
      refine take_yes 2 19 rfl rfl (by kernel_rfl) (by kernel_rfl) (by kernel_rfl) (fun _ _ _ h => h) (by assumption) (by rfl) (v := ?_) ?_ ?_
      rotate_left 1
      · (intro w hSw; (try dsimp only at hSw); go_simp; try with_reducible rfl)
      simp only [List.setIfInBounds_toArray, List.set_cons_zero, List.set_cons_succ]
      refine take_yes 3 20 rfl rfl (by kernel_rfl) (by kernel_rfl) (by kernel_rfl) (fun _ _ _ h => h) (by assumption) (by rfl) (v := ?_) ?_ ?_
      rotate_left 1
      · (intro w hSw; (try dsimp only at hSw); go_simp; try with_reducible rfl)
      simp only [List.setIfInBounds_toArray, List.set_cons_zero, List.set_cons_succ]
      refine take_yes 4 21 rfl rfl (by kernel_rfl) (by kernel_rfl) (by kernel_rfl) (fun _ _ _ h => h) (by assumption) (by rfl) (v := ?_) ?_ ?_
      rotate_left 1
      · (intro w hSw; (try dsimp only at hSw); go_simp; try with_reducible rfl)
      simp only [List.setIfInBounds_toArray, List.set_cons_zero, List.set_cons_succ]
      refine take_yes 5 22 rfl rfl (by kernel_rfl) (by kernel_rfl) (by kernel_rfl) (fun _ _ _ h => h) (by assumption) (by rfl) (v := ?_) ?_ ?_
      rotate_left 1
      · (intro w hSw; (try dsimp only at hSw); go_simp; try with_reducible rfl)
      simp only [List.setIfInBounds_toArray, List.set_cons_zero, List.set_cons_succ]
      refine take_yes 6 23 rfl rfl (by kernel_rfl) (by kernel_rfl) (by kernel_rfl) (fun _ _ _ h => h) (by assumption) (by rfl) (v := ?_) ?_ ?_
      rotate_left 1
      · (intro w hSw; (try dsimp only at hSw); go_simp; try with_reducible rfl)
      simp only [List.setIfInBounds_toArray, List.set_cons_zero, List.set_cons_succ]
      refine take_yes 7 24 rfl rfl (by kernel_rfl) (by kernel_rfl) (by kernel_rfl) (fun _ _ _ h => h) (by assumption) (by rfl) (v := ?_) ?_ ?_
      rotate_left 1
      · (intro w hSw; (try dsimp only at hSw); go_simp; try with_reducible rfl)
      simp only [List.setIfInBounds_toArray, List.set_cons_zero, List.set_cons_succ]
      refine take_yes 8 25 rfl rfl (by kernel_rfl) (by kernel_rfl) (by kernel_rfl) (fun _ _ _ h => h) (by assumption) (by rfl) (v := ?_) ?_ ?_
      rotate_left 1
      · (intro w hSw; (try dsimp only at hSw); go_simp; try with_reducible rfl)
      simp only [List.setIfInBounds_toArray, List.set_cons_zero, List.set_cons_succ]
      refine wpAnyH_done (by kernel_rfl) ?_ _
      have hb2 := HI.out.drew
      generalize wr.drew = w2 at *
      have H2 := Lib.hid hb2
      clear hb2 hHeld a0 a1 b0 b1
      go_wp2
      go_roundw
      case rel => exact ⟨i + 1, by go_num, by omega, H2⟩
      case measure => simp [intOf]; omega
    · obtain rfl : i = l.length := by omega
      go_wp2
      go_ret
      exact ⟨rfl, HI.out⟩
end Go.Proofs.YtlkgeifmppadmaaGreat
namespace Go.Proofs.YtlkgeifmppadmaaGreat
open Go.RowKit
set_option linter.unusedVariables false
set_option linter.unusedSimpArgs false

theorem FdAt.wide {Z Z' : Nat → Prop} {w : World} {f : Nat} {d : FdD} (h : FdAt Z w f d) (hZ : ∀ g, Z g → Z' g) : FdAt Z' w f d := by
  obtain ⟨r, us, es, h⟩ := h
  exact ⟨r, us, es, h.wide hZ⟩
/-- What a step leaves of a feeder in blocks of Z. -/
def OnZ (Z : Nat → Prop) (w w' : World) (f : Nat) (d : FdD) : Prop := FdAt (Wide Z w w') w' f d ∧ Chg w w' Z
theorem onZ_quiet {Z : Nat → Prop} {w w' : World} {f : Nat} {d : FdD} (h : FdAt Z w f d) (hb : Below w.heap.size w w') : OnZ Z w w' f d :=
  ⟨(h.below hb).wide (fun g hg => .inl hg), (Chg.refl w Z).trans (Chg.of_below (S := fun _ => False) hb) (fun _ _ h => h.elim)⟩
theorem offer_z (Z : Nat → Prop) (f : Nat) (d : FdD) (p : PolD) (retry : Int) (n K : Nat) (v : Value) (s : SgD) (now : Int) (hj : FdJ d p retry n K) (hn : n ≤ 4) (hK : K ≤ 10000) (hp : p.log.length ≤ 1000000000) (hr : s.ck.root.length ≤ 100000000) (hs : SmallSig s.sig) (w : World) (hZ : ∀ g, Z g → g < w.heap.size) (h : FdAt Z w f d) (hv : SgV w v s) :
    Calls Tryz.prog 11 #[.pointer (some ⟨f, 0, none⟩), v, .int .i64 now] w fun e w' => e = .returned (.bool (offB d s)) ∧ OnZ Z w w' f (offN d s now) := by
  have h0 := h
  obtain ⟨r, us, es, h1⟩ := h
  have hlog : d.p.log.length ≤ 1000000000 := by rw [hj.pol]; exact hp
  cases hb : offB d s with
  | false =>
    refine (offer_no Z f d r us es v s now hlog hr hs w h1 hv hb).mono ?_
    rintro e w' ⟨e1, e2⟩
    refine ⟨e1, ?_⟩
    unfold offN
    rw [hb, if_neg (by decide)]
    exact onZ_quiet h0 e2
  | true =>
    have h2 := hb
    simp only [offB, Bool.and_eq_true, Bool.not_eq_true', Bool.and_eq_false_iff, decide_eq_false_iff_not] at h2
    obtain ⟨a1, a2⟩ := h2
    refine (offer_yes Z f d r us es v s now hlog hr hs w h1 hv a1 (fun hh => by
      rcases a2 with a2 | a2
      · rw [hh] at a2; exact absurd a2 (by decide)
      · omega) (by have := hj.ml; omega) (by have := hj.ord; omega) (by rw [hj.len]; omega) hZ).mono ?_
    rintro e w' ⟨e1, e2, e3⟩
    refine ⟨e1, ?_⟩
    unfold offN
    rw [hb, if_pos rfl]
    exact ⟨e2, e3⟩
theorem step_z (Z : Nat → Prop) (f : Nat) (d : FdD) (p : PolD) (retry : Int) (n K : Nat) (now : Int) (hj : FdJ d p retry n K) (hn : n ≤ 4) (hK : K ≤ 10000) (hre : 1 ≤ retry ∧ retry ≤ 1000) (hnow : 0 ≤ now ∧ now ≤ 1000000000000) (w : World) (hZ : ∀ g, Z g → g < w.heap.size) (h : FdAt Z w f d) :
    Calls Tryz.prog 35 #[.pointer (some ⟨f, 0, none⟩), .int .i64 now] w fun e w' => ∃ A c, e = .returned (.slice A (reqL d now).length c) ∧ w'.ownsRow w.heap.size 115 2 (.slice A (reqL d now).length c) (reqL d now).length (reqCells (reqL d now)) ∧ OnZ Z w w' f (stepD d now) := by
  refine (step_any Z f d now hnow (by rw [hj.re]; exact hre) (by have := hj.ml; omega) (by have := hj.ord; omega) (fun x hx => by rw [hj.len]; exact hj.wh x hx) (fun k => by have := hj.tr k; exact ⟨this.1, by have := this.2; omega⟩) (by rw [hj.len]; omega) w hZ h).mono ?_
  rintro e w' ⟨v, rfl, e1, e2, e3⟩
  obtain ⟨A, c, rfl⟩ := (Sho.own e1).form
  exact ⟨A, c, rfl, e1, e2, e3⟩
theorem reply_z (Z : Nat → Prop) (f : Nat) (d : FdD) (p : PolD) (retry : Int) (n K : Nat) (v : Value) (g : CgD) (wit size now : Int) (hj : FdJ d p retry n K) (hn : n ≤ 4) (hK : K ≤ 10000) (hp : SmallPol p) (hs : SmallSig g.sig) (hno : rightB g.sig = false) (w : World) (hZ : ∀ g, Z g → g < w.heap.size) (h : FdAt Z w f d) (hv : CgV w v g) :
    Calls Tryz.prog 12 #[.pointer (some ⟨f, 0, none⟩), .int .i64 wit, v, .int .i64 size, .int .i64 now] w fun e w' => e = .returned (.bool (repB d wit size)) ∧ OnZ Z w w' f (repN d wit size now) := by
  obtain ⟨r, us, es, h1⟩ := h
  refine (reply_nv Z f d r us es v g wit size now (by rw [hj.pol]; exact hp) hj.sm.2 hs w h1 hv (fun _ _ _ _ _ => ?_) (by have := hj.ml; omega) (by have := hj.ord; omega) (by rw [hj.len]; omega) hZ).mono (fun e w' h => h)
  simp [cgVerB, verifyB, hno]
theorem FdJ.repN {d : FdD} {p : PolD} {retry : Int} {n B : Nat} (h : FdJ d p retry n B) (wit size now : Int) : FdJ (repN d wit size now) p retry n (B + 1) := by
  unfold Go.Proofs.YtlkgeifmppadmaaGreat.repN
  by_cases hb : repB d wit size = true
  · rw [if_pos hb]
    have hb2 := hb
    simp only [repB, Bool.and_eq_true, decide_eq_true_eq] at hb2
    have hk : wit.toNat < n := by rw [← h.len]; omega
    refine ⟨h.pol, h.re, by show (d.l.set _ _).length = n; rw [List.length_set]; exact h.len, ?_, ?_, ?_, ?_, h.sm⟩
    · intro x hx
      rcases mem_insE.1 hx with rfl | hx
      · exact ⟨by show (0 : Int) ≤ (wit.toNat : Int); omega, by show (wit.toNat : Int) < (n : Int); omega⟩
      · exact h.wh x (mem_keepW.1 hx).1
    · show (insE _ (keepW _ d.m)).length ≤ _
      rw [insE_length]
      have := keepW_le (wit.toNat : Int) d.m
      have := h.ml
      omega
    · show d.ord + 1 ≤ _
      have := h.ord
      omega
    · intro j
      have h1 := h.tr j
      have h2 := h.tr wit.toNat
      show 0 ≤ (wAt (d.l.set wit.toNat _) j).tries ∧ (wAt (d.l.set wit.toNat _) j).tries ≤ _
      rw [wAt_set]
      split
      · exact ⟨h2.1, by have := h2.2; show (wAt d.l wit.toNat).tries ≤ _; omega⟩
      · exact ⟨h1.1, by have := h1.2; omega⟩
  · rw [if_neg hb]
    exact h.up (by omega)
/-- Two feeders apart, and the owners below them. -/
structure TwS (Za Zb S : Nat → Prop) (B : Nat) (w wr : World) (v : Value) (n fa fb : Nat) (da db : FdD) : Prop where
  own : OwnersS S wr v n
  low : ∀ g, S g → g < B
  size : B ≤ wr.heap.size
  base : w.heap.size ≤ B
  below : Below w.heap.size w wr
  a : FdAt Za wr fa da
  b : FdAt Zb wr fb db
  za : ∀ g, Za g → B ≤ g ∧ g < wr.heap.size
  zb : ∀ g, Zb g → B ≤ g ∧ g < wr.heap.size
  ap : ∀ g, Za g → ¬ Zb g
theorem TwS.swap {Za Zb S : Nat → Prop} {B : Nat} {w wr : World} {v : Value} {n fa fb : Nat} {da db : FdD} (h : TwS Za Zb S B w wr v n fa fb da db) : TwS Zb Za S B w wr v n fb fa db da :=
  ⟨h.own, h.low, h.size, h.base, h.below, h.b, h.a, h.zb, h.za, fun g hg e => h.ap g e hg⟩
theorem TwS.onA {Za Zb S : Nat → Prop} {B : Nat} {w wr w1 : World} {v : Value} {n fa fb : Nat} {da db d1 : FdD} (h : TwS Za Zb S B w wr v n fa fb da db) (hz : OnZ Za wr w1 fa d1) : TwS (Wide Za wr w1) Zb S B w w1 v n fa fb d1 db := by
  obtain ⟨h1, h2⟩ := hz
  have hs := h2.size
  exact ⟨h.own.chg h2 (fun g hg e => by have := h.low g hg; have := (h.za g e).1; omega), h.low, Nat.le_trans h.size hs, h.base, h.below.trans (h2.below h.below.size (fun k hk => Nat.le_trans h.base (h.za k hk).1)), h1, h.b.chg h2 (fun g hg e => h.ap g e hg),
    fun g hg => by
      rcases hg with hg | hg
      · have := h.za g hg; exact ⟨this.1, by omega⟩
      · exact ⟨Nat.le_trans h.size hg.1, hg.2⟩,
    fun g hg => by have := h.zb g hg; exact ⟨this.1, by omega⟩,
    fun g hg e => by
      rcases hg with hg | hg
      · exact h.ap g hg e
      · have := (h.zb g e).2; have h9 : wr.heap.size ≤ g := hg.1; omega⟩
theorem TwS.onB {Za Zb S : Nat → Prop} {B : Nat} {w wr w1 : World} {v : Value} {n fa fb : Nat} {da db d1 : FdD} (h : TwS Za Zb S B w wr v n fa fb da db) (hz : OnZ Zb wr w1 fb d1) : TwS Za (Wide Zb wr w1) S B w w1 v n fa fb da d1 := (h.swap.onA hz).swap
theorem TwS.quiet {Za Zb S : Nat → Prop} {B : Nat} {w wr w1 : World} {v : Value} {n fa fb : Nat} {da db : FdD} (h : TwS Za Zb S B w wr v n fa fb da db) (hb : Below wr.heap.size wr w1) : TwS Za Zb S B w w1 v n fa fb da db := by
  have hs := hb.size
  exact ⟨h.own.below hb, h.low, Nat.le_trans h.size hs, h.base, h.below.trans (hb.mono h.below.size), h.a.below hb, h.b.below hb, fun g hg => by have := h.za g hg; exact ⟨this.1, by omega⟩, fun g hg => by have := h.zb g hg; exact ⟨this.1, by omega⟩, h.ap⟩
theorem TwS.in {Za Zb S : Nat → Prop} {B : Nat} {w wr : World} {v : Value} {n fa fb : Nat} {da db : FdD} (h : TwS Za Zb S B w wr v n fa fb da db) : ∀ g, S g → g < wr.heap.size := fun g hg => Nat.lt_of_lt_of_le (h.low g hg) h.size
/-- The cosignature that says nothing. -/
def zCg : CgD := ⟨0, ⟨0, [], []⟩⟩
theorem zCg_wrong : rightB zCg.sig = false := rfl
theorem zCg_small : SmallSig zCg.sig := ⟨Nat.zero_le _, Nat.zero_le _, fun i h => absurd h (Nat.not_lt_zero _), fun i h => absurd h (Nat.not_lt_zero _)⟩
theorem zCg_v (w : World) : CgV w (.agg #[.int .i64 0, .int .i64 0, .slice none 0 0, .slice none 0 0]) zCg := ⟨_, _, rfl, ⟨[], Sho.nil w 1, fun i h => absurd h (Nat.not_lt_zero _)⟩, ⟨[], Sho.nil w 1, fun i h => absurd h (Nat.not_lt_zero _)⟩⟩
/-- A witness that there is not: refused. -/
theorem rep_far (d : FdD) (wit size now : Int) (h : wit < 0 ∨ (d.l.length : Int) ≤ wit) : repB d wit size = false ∧ repN d wit size now = d := by
  have hf : repB d wit size = false := by
    unfold repB
    rcases h with h | h
    · rw [show decide (0 ≤ wit) = false by simp; omega]; simp
    · rw [show decide (wit < (d.l.length : Int)) = false by simp; omega]; simp
  refine ⟨hf, ?_⟩
  unfold repN
  rw [hf, if_neg (by decide)]
end Go.Proofs.YtlkgeifmppadmaaGreat
