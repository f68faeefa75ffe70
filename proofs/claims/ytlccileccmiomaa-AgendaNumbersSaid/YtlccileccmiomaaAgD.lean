/- The agenda's New, Add, Next, Due, Len, over its list in order. Conditions: as each theorem states them. -/
import Derived.Test.YtlccileccmiomaaAgC
namespace Go.Proofs.Ytlccileccmiomaa
open Go.RowKit
set_option linter.unusedVariables false
set_option linter.unusedSimpArgs false

/-! ### The list in order -/
def Ent.bef (a b : Ent) : Prop := a.tm < b.tm ∨ (a.tm = b.tm ∧ a.ord < b.ord)
def insE (x : Ent) : List Ent → List Ent
  | [] => [x]
  | y :: m => if y.tm ≤ x.tm then y :: insE x m else x :: y :: m
theorem insE_perm (x : Ent) (m : List Ent) : (insE x m).Perm (m ++ [x]) := by
  induction m with
  | nil => exact List.Perm.refl _
  | cons y m ih =>
    unfold insE
    split
    · exact ih.cons y
    · exact (List.perm_append_singleton x (y :: m)).symm
def Srt (m : List Ent) (ord : Int) : Prop := m.Pairwise Ent.bef ∧ ∀ e ∈ m, e.ord < ord
theorem insE_mem {x y : Ent} {m : List Ent} (h : y ∈ insE x m) : y = x ∨ y ∈ m := by
  have := (insE_perm x m).mem_iff.1 h
  rw [List.mem_append, List.mem_singleton] at this
  exact this.symm
theorem insE_srt {m : List Ent} {ord : Int} (tm wh : Int) (h : Srt m ord) : Srt (insE ⟨tm, ord, wh⟩ m) (ord + 1) := by
  obtain ⟨h1, h2⟩ := h
  refine ⟨?_, fun e he => ?_⟩
  · induction m with
    | nil => exact List.pairwise_singleton _ _
    | cons y m ih =>
      rw [List.pairwise_cons] at h1
      have hy := h2 y List.mem_cons_self
      unfold insE
      split
      · rename_i hle
        rw [List.pairwise_cons]
        refine ⟨fun z hz => ?_, ih h1.2 (fun e he => h2 e (List.mem_cons_of_mem _ he))⟩
        rcases insE_mem hz with rfl | hz
        · unfold Ent.bef
          simp only at *
          omega
        · exact h1.1 z hz
      · rename_i hle
        rw [List.pairwise_cons]
        refine ⟨fun z hz => ?_, List.pairwise_cons.2 h1⟩
        have hb : y.tm ≤ z.tm := by
          rcases List.mem_cons.1 hz with rfl | hz
          · exact Int.le_refl _
          · have := h1.1 z hz; unfold Ent.bef at this; omega
        unfold Ent.bef
        simp only at *
        omega
  · rcases insE_mem he with rfl | he
    · simp only; omega
    · have := h2 e he; omega
theorem srt_mono {m : List Ent} {a b : Int} (h : Srt m a) (hab : a ≤ b) : Srt m b := ⟨h.1, fun e he => by have := h.2 e he; omega⟩
theorem srt_tail {x : Ent} {m : List Ent} {a : Int} (h : Srt (x :: m) a) : Srt m a := ⟨(List.pairwise_cons.1 h.1).2, fun e he => h.2 e (List.mem_cons_of_mem _ he)⟩
theorem srt_filter {m : List Ent} {a : Int} (p : Ent → Bool) (h : Srt m a) : Srt (m.filter p) a := ⟨h.1.filter _, fun e he => h.2 e (List.mem_filter.1 he).1⟩
/-- The heap's root is the first one. -/
theorem root_first {l m : List Ent} {x : Ent} {a : Int} (hh : HeapFrom l 0 l.length) (hp : l.Perm (x :: m)) (hs : Srt (x :: m) a) : gE l 0 = x := by
  have hl : 0 < l.length := by rw [hp.length_eq]; simp
  have hx : x ∈ l := hp.mem_iff.2 List.mem_cons_self
  obtain ⟨k, hk, e⟩ := List.getElem_of_mem hx
  have h1 := heap_min hh k hk
  rw [gE_at hk, e] at h1
  have h2 : gE l 0 ∈ x :: m := hp.mem_iff.1 (by rw [gE_at hl]; exact List.getElem_mem _)
  rcases List.mem_cons.1 h2 with h2 | h2
  · exact h2
  · have := (List.pairwise_cons.1 hs.1).1 _ h2
    unfold Ent.bef at this
    unfold Ent.le at h1
    omega

/-- An agenda: what it has, in order. -/
structure AgS (w : World) (base b : Nat) (v : Value) (m : List Ent) (ord : Int) : Prop where
  ag : ∃ l, Ag w base b v (.int .i64 ord) l ∧ HeapFrom l 0 l.length ∧ l.Perm m
  srt : Srt m ord
  pos : 0 ≤ ord
namespace AgS
variable {w w1 : World} {base b : Nat} {v : Value} {m : List Ent} {ord : Int} {S : Nat → Prop}
theorem chg (h : AgS w base b v m ord) (hc : Chg w w1 S) (hn : ∀ k, Foot b v k → ¬ S k) : AgS w1 base b v m ord := by
  obtain ⟨⟨l, h1, h2⟩, h3, h4⟩ := h
  exact ⟨⟨l, h1.chg hc hn, h2⟩, h3, h4⟩
theorem below (h : AgS w base b v m ord) (hb : Below w.heap.size w w1) : AgS w1 base b v m ord := h.chg (Chg.of_below (S := fun _ => False) hb) (fun _ _ h => h)
theorem foot_lt (h : AgS w base b v m ord) : ∀ k, Foot b v k → k < w.heap.size := by obtain ⟨⟨l, h1, _⟩, _⟩ := h; exact h1.foot_lt
theorem foot_ge (h : AgS w base b v m ord) : ∀ k, Foot b v k → base ≤ k := by obtain ⟨⟨l, h1, _⟩, _⟩ := h; exact h1.foot_ge
theorem blk (h : AgS w base b v m ord) : Blk w b 45 [v, .int .i64 ord] := by obtain ⟨⟨l, h1, _⟩, _⟩ := h; exact h1.blk
theorem form (h : AgS w base b v m ord) : ∃ A c, v = .slice A m.length c := by
  obtain ⟨⟨l, h1, _, h2⟩, _⟩ := h
  rw [← h2.length_eq]
  exact h1.form
end AgS

theorem new_any (w : World) : Calls Try.prog 9 #[] w fun e w' => e = .returned (.pointer (some ⟨w.heap.size, 0, none⟩)) ∧ AgS w' w.heap.size w.heap.size (.slice none 0 0) [] 0 ∧ Below w.heap.size w w' := by
  go_enter Try.func9, Try.ntmps9
  go_wp2
  go_ret
  refine ⟨rfl, ⟨⟨[], ⟨Blk.new w _ _, World.ownsRow_nil _ _ _ _, Nat.le_refl _, by simp [Value.ownBlock]⟩, fun k k0 k1 _ => absurd k1 (Nat.not_lt_zero _), List.Perm.refl _⟩, ⟨List.Pairwise.nil, fun e he => by cases he⟩, Int.le_refl _⟩, (Below.refl _ _).alloc (Nat.le_refl _) _⟩

theorem alen_any (base b : Nat) (v : Value) (m : List Ent) (ord : Int) (w : World) (h : AgS w base b v m ord) : Calls Try.prog 14 #[.pointer (some ⟨b, 0, none⟩)] w fun e w' => e = .returned (.int .i64 m.length) ∧ w = w' := by
  obtain ⟨A, c, rfl⟩ := h.form
  have hc := h.blk.cell 0 _ rfl
  clear h
  go_enter Try.func14, Try.ntmps14
  go_wp2
  go_ret
  exact ⟨rfl, rfl⟩

def AddPost (w : World) (base b : Nat) (v : Value) (m : List Ent) (ord tm wh : Int) (e : Ending) (w' : World) : Prop :=
  ∃ v', e = .returned (.tuple #[]) ∧ AgS w' base b v' (insE ⟨tm, ord, wh⟩ m) (ord + 1) ∧ (v'.ownBlock = v.ownBlock ∨ ∃ k, v'.ownBlock = some k ∧ w.heap.size ≤ k) ∧ Chg w w' (Foot b v)
set_option maxHeartbeats 1000000 in
theorem add_any (base b : Nat) (v : Value) (m : List Ent) (ord tm wh : Int) (hsm : m.length < 100000000) (ho : ord < 100000000000) (w : World) (h : AgS w base b v m ord) :
    Calls Try.prog 10 #[.pointer (some ⟨b, 0, none⟩), .int .i64 tm, .int .i64 wh] w (AddPost w base b v m ord tm wh) := by
  have HS := Lib.hid h.srt
  have h0 := h.pos
  obtain ⟨⟨l, ha, hh, hp⟩, _, _⟩ := h
  have hlm := hp.length_eq
  have hll : l.length < 100000000000 := by omega
  have HA := Lib.hid (And.intro ha (And.intro hh hp))
  have hc := ha.blk.cell 0 _ rfl
  have hc1 := ha.blk.cell 1 _ rfl
  clear ha hh hp hlm
  go_enter Try.func10, Try.ntmps10
  go_wp2
  go_still_tail 12, (by kernel_rfl)
  go_wp2_with fail
  refine (hpush_any base b v (.int .i64 ord) l ⟨tm, ord, wh⟩ hll _ (HA.out.1.drewN 1) HA.out.2.1).mono ?_
  rintro e w1 ⟨rfl, v', l', ha1, hh1, hp1, hat, hch⟩
  have hc2 := ha1.blk.cell 1 _ rfl
  have hf2 := ha1.blk.free
  have HR := Lib.hid (And.intro ha1 (And.intro hh1 (And.intro hp1 (And.intro hat hch))))
  clear ha1 hh1 hp1 hat hch hc hc1
  go_wp2
  go_end0
  obtain ⟨ha1, hh1, hp1, hat, hch⟩ := HR.out
  refine ⟨v', rfl, ⟨⟨l', ⟨?_, ?_, ha1.le, ha1.ne⟩, hh1, ?_⟩, insE_srt tm wh HS.out, by omega⟩, hat, ?_⟩
  · exact ha1.blk.set 1 _ (by simp)
  · exact ownsRow_set ha1.row ⟨b, 1, none⟩ _ ha1.ne
  · exact hp1.trans ((HA.out.2.2.append_right _).trans (insE_perm _ _).symm)
  · have h1 : Chg w w1 (Foot b v) := ⟨hch.os, hch.tape, hch.output, hch.size, hch.block⟩
    exact h1.setCell ⟨b, 1, none⟩ _ (fun _ => .inl rfl)

/-! ### Next, Due -/
theorem next_none (base b : Nat) (v : Value) (ord : Int) (w : World) (h : AgS w base b v [] ord) :
    Calls Try.prog 12 #[.pointer (some ⟨b, 0, none⟩)] w fun e w' => e = .returned (.tuple #[.int .i64 0, .int .i64 0, .bool false]) ∧ ∃ n, w' = w.drewN n := by
  obtain ⟨A, c, rfl⟩ := h.form
  have hc := h.blk.cell 0 _ rfl
  clear h
  simp only [List.length_nil] at hc
  go_enter Try.func12, Try.ntmps12
  go_wp2
  go_ret3
  exact ⟨rfl, 0, rfl⟩
theorem next_some (base b : Nat) (v : Value) (x : Ent) (m : List Ent) (ord : Int) (w : World) (h : AgS w base b v (x :: m) ord) :
    Calls Try.prog 12 #[.pointer (some ⟨b, 0, none⟩)] w fun e w' => e = .returned (.tuple #[.int .i64 x.tm, .int .i64 x.wh, .bool true]) ∧ ∃ n, w' = w.drewN n := by
  obtain ⟨⟨l, ha, hh, hp⟩, hs, _⟩ := h
  have hr := root_first hh hp hs
  have hl : 0 < l.length := by rw [hp.length_eq]; simp
  obtain ⟨g, cap, rest, rfl, hg, hp2⟩ := ha.hp hl
  obtain ⟨p0, p1, p2⟩ := hp2.pile.cells 0 hl
  rw [gE_at hl] at hr
  rw [hr] at p0 p1 p2
  have hc := hp2.cell
  have hl' : (0 : Int) < (l.length : Int) := by omega
  have hne : ((l.length : Int) == 0) = false := by rw [beq_eq_false_iff_ne]; omega
  simp only [Nat.zero_mul, Nat.zero_add] at p0 p1 p2
  clear ha hh hp hs hr hg hp2
  go_enter Try.func12, Try.ntmps12
  go_wp2
  go_quiet (fail)
  go_wp2
  go_ret3
  exact ⟨rfl, _, rfl⟩

theorem due_none (base b : Nat) (v : Value) (ord now : Int) (w : World) (h : AgS w base b v [] ord) :
    Calls Try.prog 13 #[.pointer (some ⟨b, 0, none⟩), .int .i64 now] w fun e w' => e = .returned (.tuple #[.int .i64 0, .bool false]) ∧ ∃ n, w' = w.drewN n := by
  have H := Lib.hid h
  clear h
  go_enter Try.func13, Try.ntmps13
  go_wp2_with fail
  refine (next_none base b v ord w H.out).mono ?_
  rintro e w1 ⟨rfl, n, rfl⟩
  go_wp2
  go_ret2
  exact ⟨rfl, _, rfl⟩
theorem due_early (base b : Nat) (v : Value) (x : Ent) (m : List Ent) (ord now : Int) (hn : now < x.tm) (w : World) (h : AgS w base b v (x :: m) ord) :
    Calls Try.prog 13 #[.pointer (some ⟨b, 0, none⟩), .int .i64 now] w fun e w' => e = .returned (.tuple #[.int .i64 0, .bool false]) ∧ ∃ n, w' = w.drewN n := by
  have H := Lib.hid h
  clear h
  go_enter Try.func13, Try.ntmps13
  go_wp2_with fail
  refine (next_some base b v x m ord w H.out).mono ?_
  rintro e w1 ⟨rfl, n, rfl⟩
  go_wp2
  go_ret2
  exact ⟨rfl, _, rfl⟩
def DuePost (w : World) (base b : Nat) (v : Value) (x : Ent) (m : List Ent) (ord : Int) (e : Ending) (w' : World) : Prop :=
  ∃ v', e = .returned (.tuple #[.int .i64 x.wh, .bool true]) ∧ AgS w' base b v' m ord ∧ v'.ownBlock = v.ownBlock ∧ Chg w w' (Foot b v)
theorem run_assert2 (y : Value) (w : World) : (Instr.typeAssert (.iface 49 y) 20 49 false).run Try.prog w = .ok y w := by kernel_rfl
theorem run_field2 (x y z : Value) (w : World) : (Instr.field 49 (.agg #[x, y, z]) 2).run Try.prog w = .ok z w := by kernel_rfl
set_option maxHeartbeats 1000000 in
theorem due_yes (base b : Nat) (v : Value) (x : Ent) (m : List Ent) (ord now : Int) (hsm : m.length < 10000000000) (hn : x.tm ≤ now) (w : World) (h : AgS w base b v (x :: m) ord) :
    Calls Try.prog 13 #[.pointer (some ⟨b, 0, none⟩), .int .i64 now] w (DuePost w base b v x m ord) := by
  have H := Lib.hid h
  clear h
  have hta := run_assert
  have hfi := run_field2
  go_enter Try.func13, Try.ntmps13
  go_wp2_with fail
  refine (next_some base b v x m ord w H.out).mono ?_
  rintro e w1 ⟨rfl, n, rfl⟩
  obtain ⟨⟨l, ha, hh, hp⟩, hs, hpos⟩ := H.out
  have hr := root_first hh hp hs
  have hlen := hp.length_eq
  have H2 := Lib.hid (And.intro ha (And.intro hh (And.intro hp (And.intro hs (And.intro hpos (And.intro hr hlen))))))
  clear ha hh hp hs hpos hr hlen
  go_wp2_with fail
  refine (hpop_any base b v (.int .i64 ord) l (by rw [H2.out.2.2.2.2.2.2]; simp) (by rw [H2.out.2.2.2.2.2.2]; simp; omega) _ (H2.out.1.drewN n) H2.out.2.1).mono ?_
  rintro e w2 ⟨y, v', l', rfl, hy, ha', hh', hp', hvv, hc⟩
  have HR := Lib.hid (And.intro hy (And.intro ha' (And.intro hh' (And.intro hp' (And.intro hvv hc)))))
  clear hy ha' hh' hp' hvv hc
  go_wp2
  go_ret2
  obtain ⟨hy, ha', hh', hp', hvv, hc⟩ := HR.out
  obtain ⟨ha, hh, hp, hs, hpos, hr, hlen⟩ := H2.out
  rw [hr] at hy
  subst hy
  refine ⟨v', rfl, ⟨⟨l', ha', hh', ?_⟩, srt_tail hs, hpos⟩, hvv, ⟨hc.os, hc.tape, hc.output, hc.size, hc.block⟩⟩
  have h3 : (y :: l').Perm (y :: m) := (List.perm_append_singleton y l').symm.trans (hp'.trans hp)
  exact (List.perm_cons y).1 h3
end Go.Proofs.Ytlccileccmiomaa
