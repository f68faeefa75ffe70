/- The law's own functions known and put. Conditions: as each theorem states them. -/
import Derived.Test.YtlccileccmiomaaAgH
namespace Go.Proofs.Ytlccileccmiomaa
open Go.RowKit
set_option linter.unusedVariables false
set_option linter.unusedSimpArgs false

/-- The slice at A shows the ints xs: where there is one, A is a plain address. -/
def ArgInts (w : World) (A : Option Addr) (xs : List Int) : Prop := ∀ k (h : k < xs.length), ∃ g o, A = some ⟨g, o, none⟩ ∧ g < w.heap.size ∧ w.cell? ⟨g, o + k, none⟩ = some (.int .i64 xs[k])
/-- An agenda in memory above base. -/
def AgX (w : World) (base b : Nat) (m : List Ent) (ord : Int) : Prop := ∃ v, AgS w base b v m ord
theorem AgX.cut {w : World} {base b : Nat} {m : List Ent} {ord : Int} (h : AgX w base b m ord) {w1 : World} (hb : Below w.heap.size w w1) : AgX w1 base b m ord := by
  obtain ⟨v, h⟩ := h
  exact ⟨v, h.below hb⟩
theorem below_drew (w : World) : Below w.heap.size w w.drew := ⟨rfl, rfl, rfl, Nat.le_refl _, fun _ _ => rfl⟩
theorem AgX.drew {w : World} {base b : Nat} {m : List Ent} {ord : Int} (h : AgX w base b m ord) : AgX w.drew base b m ord := h.cut (below_drew w)
theorem new_x (w : World) : Calls Try.prog 9 #[] w fun e w' => e = .returned (.pointer (some ⟨w.heap.size, 0, none⟩)) ∧ AgX w' w.heap.size w.heap.size [] 0 ∧ Below w.heap.size w w' :=
  (new_any w).mono fun _ _ ⟨h1, h2, h3⟩ => ⟨h1, ⟨_, h2⟩, h3⟩
theorem add_x (base b : Nat) (m : List Ent) (ord tm wh : Int) (hsm : m.length < 100000000) (ho : ord < 100000000000) (w : World) (hb : base ≤ w.heap.size) (h : AgX w base b m ord) :
    Calls Try.prog 10 #[.pointer (some ⟨b, 0, none⟩), .int .i64 tm, .int .i64 wh] w fun e w' => e = .returned (.tuple #[]) ∧ AgX w' base b (insE ⟨tm, ord, wh⟩ m) (ord + 1) ∧ Below base w w' := by
  obtain ⟨v, h⟩ := h
  refine (add_any base b v m ord tm wh hsm ho w h).mono ?_
  rintro e w' ⟨v', rfl, h1, _, h2⟩
  exact ⟨rfl, ⟨v', h1⟩, h2.below hb h.foot_ge⟩
theorem due_x (base b : Nat) (x : Ent) (m : List Ent) (ord now : Int) (hsm : m.length < 10000000000) (hn : x.tm ≤ now) (w : World) (hb : base ≤ w.heap.size) (h : AgX w base b (x :: m) ord) :
    Calls Try.prog 13 #[.pointer (some ⟨b, 0, none⟩), .int .i64 now] w fun e w' => e = .returned (.tuple #[.int .i64 x.wh, .bool true]) ∧ AgX w' base b m ord ∧ Below base w w' := by
  obtain ⟨v, h⟩ := h
  refine (due_yes base b v x m ord now hsm hn w h).mono ?_
  rintro e w' ⟨v', rfl, h1, _, h2⟩
  exact ⟨rfl, ⟨v', h1⟩, h2.below hb h.foot_ge⟩
theorem due_e (base b : Nat) (x : Ent) (m : List Ent) (ord now : Int) (hn : now < x.tm) (w : World) (h : AgX w base b (x :: m) ord) :
    Calls Try.prog 13 #[.pointer (some ⟨b, 0, none⟩), .int .i64 now] w fun e w' => e = .returned (.tuple #[.int .i64 0, .bool false]) ∧ Below w.heap.size w w' := by
  obtain ⟨v, h⟩ := h
  refine (due_early base b v x m ord now hn w h).mono ?_
  rintro e w' ⟨rfl, n, rfl⟩
  exact ⟨rfl, below_drewN (Below.refl _ _) n⟩
theorem due_0 (base b : Nat) (ord now : Int) (w : World) (h : AgX w base b [] ord) :
    Calls Try.prog 13 #[.pointer (some ⟨b, 0, none⟩), .int .i64 now] w fun e w' => e = .returned (.tuple #[.int .i64 0, .bool false]) ∧ Below w.heap.size w w' := by
  obtain ⟨v, h⟩ := h
  refine (due_none base b v ord now w h).mono ?_
  rintro e w' ⟨rfl, n, rfl⟩
  exact ⟨rfl, below_drewN (Below.refl _ _) n⟩
theorem next_x (base b : Nat) (x : Ent) (m : List Ent) (ord : Int) (w : World) (h : AgX w base b (x :: m) ord) :
    Calls Try.prog 12 #[.pointer (some ⟨b, 0, none⟩)] w fun e w' => e = .returned (.tuple #[.int .i64 x.tm, .int .i64 x.wh, .bool true]) ∧ Below w.heap.size w w' := by
  obtain ⟨v, h⟩ := h
  refine (next_some base b v x m ord w h).mono ?_
  rintro e w' ⟨rfl, n, rfl⟩
  exact ⟨rfl, below_drewN (Below.refl _ _) n⟩
theorem next_0 (base b : Nat) (ord : Int) (w : World) (h : AgX w base b [] ord) :
    Calls Try.prog 12 #[.pointer (some ⟨b, 0, none⟩)] w fun e w' => e = .returned (.tuple #[.int .i64 0, .int .i64 0, .bool false]) ∧ Below w.heap.size w w' := by
  obtain ⟨v, h⟩ := h
  refine (next_none base b v ord w h).mono ?_
  rintro e w' ⟨rfl, n, rfl⟩
  exact ⟨rfl, below_drewN (Below.refl _ _) n⟩
theorem len_x (base b : Nat) (m : List Ent) (ord : Int) (w : World) (h : AgX w base b m ord) :
    Calls Try.prog 14 #[.pointer (some ⟨b, 0, none⟩)] w fun e w' => e = .returned (.int .i64 m.length) ∧ w = w' := by
  obtain ⟨v, h⟩ := h
  exact alen_any base b v m ord w h
theorem all_x (base b : Nat) (m : List Ent) (ord : Int) (hsm : m.length < 1000000000) (w : World) (h : AgX w base b m ord) :
    Calls Try.prog 18 #[.pointer (some ⟨b, 0, none⟩)] w (AllPost w m) := by
  obtain ⟨v, h⟩ := h
  exact all_any base b v m ord hsm w h
theorem cancel_x (base b : Nat) (m : List Ent) (ord what : Int) (hsm : m.length < 1000000000) (w : World) (hb : base ≤ w.heap.size) (h : AgX w base b m ord) :
    Calls Try.prog 17 #[.pointer (some ⟨b, 0, none⟩), .int .i64 what] w fun e w' => e = .returned (.int .i64 ((m.length : Int) - (keepW what m).length)) ∧ AgX w' base b (keepW what m) ord ∧ Below base w w' := by
  obtain ⟨v, h⟩ := h
  refine (cancel_any base b v m ord what hsm w h).mono ?_
  rintro e w' ⟨v', rfl, h1, _, h2⟩
  exact ⟨rfl, ⟨v', h1⟩, h2.below hb h.foot_ge⟩

def mKnown : List Ent := insE ⟨5, 2, 3⟩ (insE ⟨3, 1, 2⟩ (insE ⟨5, 0, 1⟩ []))
theorem mKnown_wh : mKnown.map Ent.wh = [2, 1, 3] := by decide
set_option maxHeartbeats 1000000 in
theorem known_any (w : World) : Calls Try.prog 15 #[] w fun e w' => e = .returned (.bool true) ∧ Below w.heap.size w w' := by
  go_enter Try.func15, Try.ntmps15
  go_wp2_with fail
  refine (new_x w).mono ?_
  rintro e w1 ⟨rfl, h1, h2⟩
  have H1 := Lib.hid (And.intro h1 h2)
  clear h1 h2
  go_wp2_with fail
  refine (add_x w.heap.size w.heap.size [] 0 5 1 (by decide) (by decide) w1 H1.out.2.size H1.out.1).mono ?_
  rintro e w2 ⟨rfl, h1, h2⟩
  have H2 := Lib.hid (And.intro h1 (H1.out.2.trans h2))
  clear h1 h2
  go_wp2_with fail
  refine (add_x w.heap.size w.heap.size _ _ 3 2 (by decide) (by decide) w2 H2.out.2.size H2.out.1).mono ?_
  rintro e w3 ⟨rfl, h1, h2⟩
  have H3 := Lib.hid (And.intro h1 (H2.out.2.trans h2))
  clear h1 h2
  go_wp2_with fail
  refine (add_x w.heap.size w.heap.size _ _ 5 3 (by decide) (by decide) w3 H3.out.2.size H3.out.1).mono ?_
  rintro e w4 ⟨rfl, h1, h2⟩
  have H4 := Lib.hid (And.intro (show AgX w4 w.heap.size w.heap.size mKnown 3 from h1) (H3.out.2.trans h2))
  clear h1 h2 H1 H2 H3
  go_wp2_with fail
  refine (all_x w.heap.size w.heap.size mKnown 3 (by decide) w4 H4.out.1).mono ?_
  rintro e w5 ⟨v, rfl, h1, h2⟩
  have hsz := H4.out.2.size
  have H5 := Lib.hid (And.intro h1 (And.intro (H4.out.1.cut h2) (H4.out.2.trans (h2.mono H4.out.2.size))))
  clear h1 h2
  go_wp2_with fail
  have hal : Below w5.heap.size w5 (w5.alloc (.cells #[.int .i64 2, .int .i64 1, .int .i64 3] 3)) := (Below.refl _ _).alloc (Nat.le_refl _) _
  refine (same_any v _ [2, 1, 3] [2, 1, 3] (by decide) _ (H5.out.1.below hal) (Ints.new w5 3 [2, 1, 3] 3)).mono ?_
  rintro e w6 ⟨rfl, h1⟩
  have h2 : Below w5.heap.size w5 w6 := hal.trans (h1.mono hal.size)
  have H6 := Lib.hid (And.intro (H5.out.2.1.cut h2) (H5.out.2.2.trans (h2.mono H5.out.2.2.size)))
  clear h1 h2 hal H5 H4
  have hd : decide (([2, 1, 3] : List Int) = [2, 1, 3]) = true := by decide
  go_wp2_with fail
  refine (len_x w.heap.size w.heap.size mKnown 3 w6 H6.out.1).mono ?_
  rintro e w7 ⟨rfl, rfl⟩
  have hl : mKnown.length = 3 := rfl
  go_wp2
  go_ret
  exact ⟨rfl, H6.out.2⟩
end Go.Proofs.Ytlccileccmiomaa
