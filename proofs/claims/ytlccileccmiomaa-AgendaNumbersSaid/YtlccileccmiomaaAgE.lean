/- The agenda's Cancel: its closure, slices.IndexFunc and slices.DeleteFunc over a pile. Conditions: as each theorem states them. -/
import Derived.Test.YtlccileccmiomaaAgD
namespace Go.Proofs.Ytlccileccmiomaa
open Go.RowKit
set_option linter.unusedVariables false
set_option linter.unusedSimpArgs false

/-- The closure: is it that thing? -/
theorem is_any (x : Ent) (what : Int) (B : Nat) (w : World) (hB : w.cell? ⟨B, 0, none⟩ = some (.int .i64 what)) :
    Calls Try.prog 23 #[.agg #[.int .i64 x.tm, .int .i64 x.ord, .int .i64 x.wh], .pointer (some ⟨B, 0, none⟩)] w fun e w' => e = .returned (.bool (x.wh == what)) ∧ w' = w.alloc (.cells x.cells.toArray 49) := by
  have hlt : B < w.heap.size := World.block_lt_of_cell? w _ hB
  go_enter Try.func23, Try.ntmps23
  go_wp2
  go_ret
  exact ⟨rfl, rfl⟩

/-- The first one that is it, or -1. -/
def idxW (what : Int) (l : List Ent) : Int := match l.findIdx? (fun x => x.wh == what) with | some k => k | none => -1
def IdxPost (w : World) (what : Int) (l : List Ent) (e : Ending) (w' : World) : Prop :=
  Below w.heap.size w w' ∧ ((e = .returned (.int .i64 (-1)) ∧ ∀ x ∈ l, x.wh ≠ what) ∨ ∃ k, e = .returned (.int .i64 (k : Nat)) ∧ k < l.length ∧ (gE l k).wh = what ∧ ∀ j, j < k → (gE l j).wh ≠ what)
set_option maxHeartbeats 1000000 in
theorem indexFunc_any (g cap : Nat) (l : List Ent) (rest : List Value) (what : Int) (B : Nat) (hsm : l.length < 100000000000) (w : World) (hB : w.cell? ⟨B, 0, none⟩ = some (.int .i64 what)) (h : PileAt w g cap l rest) :
    Calls Try.prog 31 #[.slice (some ⟨g, 0, none⟩) l.length cap, .func (.func 23) #[] #[.pointer (some ⟨B, 0, none⟩)]] w (IdxPost w what l) := by
  have H := Lib.hid h
  have HB := Lib.hid hB
  clear h hB
  go_enter Try.func31, Try.ntmps31
  go_wp2
  go_loopw [8] (fun v wr => ∃ k : Nat, v = .int .i64 k ∧ k ≤ l.length ∧ Hid (Below w.heap.size w wr ∧ ∀ j, j < k → (gE l j).wh ≠ what)) (fun v _ => l.length - (intOf v).toNat)
  case atStart => exact ⟨0, rfl, Nat.zero_le _, Lib.hid ⟨Below.refl _ _, fun j hj => absurd hj (Nat.not_lt_zero _)⟩⟩
  case round =>
    obtain ⟨k, rfl, hk, HI⟩ := hrel
    by_cases hlt : k < l.length
    · obtain ⟨p0, p1, p2⟩ := (H.out.below HI.out.1).cells k hlt
      have hx := gE_at hlt
      generalize l[k] = x at *
      have HX := Lib.hid hx
      clear hx
      go_wp2_with fail
      refine (is_any x what B wr ((HI.out.1.cell (World.block_lt_of_cell? w _ HB.out)).trans HB.out)).mono ?_
      rintro e w1 ⟨rfl, rfl⟩
      have hb1 := Lib.hid (HI.out.1.alloc HI.out.1.size (.cells x.cells.toArray 49))
      generalize wr.alloc (.cells x.cells.toArray 49) = w1 at *
      clear p0 p1 p2
      by_cases hw : x.wh = what
      · have hwb : (x.wh == what) = true := beq_iff_eq.2 hw
        have HW := Lib.hid hw
        clear hw
        go_wp2
        go_ret
        exact ⟨hb1.out, .inr ⟨k, rfl, hlt, by rw [HX.out]; exact HW.out, HI.out.2⟩⟩
      · have hwb : (x.wh == what) = false := beq_eq_false_iff_ne.2 hw
        have HW := Lib.hid hw
        clear hw
        go_wp2
        go_roundw
        case rel =>
          refine ⟨k + 1, by go_num, by omega, Lib.hid ⟨hb1.out, fun j hj => ?_⟩⟩
          by_cases e : j = k
          · rw [e, HX.out]; exact HW.out
          · exact HI.out.2 j (by omega)
        case measure => simp [intOf]; omega
    · go_wp2
      go_ret
      refine ⟨HI.out.1, .inl ⟨rfl, fun x hx => ?_⟩⟩
      obtain ⟨j, hj, rfl⟩ := List.getElem_of_mem hx
      rw [← gE_at hj]
      exact HI.out.2 j (by omega)

/-! ### DeleteFunc -/
def keepW (what : Int) (l : List Ent) : List Ent := l.filter (fun x => x.wh != what)
/-- The round's state: the first i places hold what is kept of the first j. -/
structure DelInv (l L : List Ent) (what : Int) (i j : Nat) : Prop where
  len : L.length = l.length
  ij : i < j
  jl : j ≤ l.length
  kept : L.take i = keepW what (l.take j)
  rest : L.drop j = l.drop j
theorem del_start {l : List Ent} {what : Int} {k : Nat} (hk : k < l.length) (hw : (gE l k).wh = what) (hb : ∀ j, j < k → (gE l j).wh ≠ what) : DelInv l l what k (k + 1) := by
  refine ⟨rfl, by omega, by omega, ?_, rfl⟩
  unfold keepW
  rw [← List.take_append_getElem hk, List.filter_append, List.filter_cons_of_neg (by rw [gE_at hk] at hw; simp [hw]), List.filter_nil, List.append_nil]
  symm
  rw [List.filter_eq_self]
  intro x hx
  obtain ⟨j, hj, rfl⟩ := List.getElem_of_mem hx
  rw [List.length_take] at hj
  have := hb j (by omega)
  rw [gE_at (by omega)] at this
  simpa using this
theorem del_skip {l L : List Ent} {what : Int} {i j : Nat} (h : DelInv l L what i j) (hj : j < l.length) (hw : (gE l j).wh = what) : DelInv l L what i (j + 1) := by
  obtain ⟨h1, h2, h3, h4, h5⟩ := h
  refine ⟨h1, by omega, by omega, ?_, ?_⟩
  · unfold keepW at *
    rw [← List.take_append_getElem hj, List.filter_append, ← h4, List.filter_cons_of_neg (by rw [gE_at hj] at hw; simp [hw])]
    simp
  · rw [← List.drop_drop, ← List.drop_drop, h5]
theorem del_get {l L : List Ent} {what : Int} {i j : Nat} (h : DelInv l L what i j) (hj : j < l.length) : gE L j = gE l j := by
  have h1 := h.len
  rw [gE_at (by omega), gE_at hj]
  have e : (L.drop j)[0]? = (l.drop j)[0]? := by rw [h.rest]
  simp only [List.getElem?_drop, Nat.add_zero] at e
  rw [List.getElem?_eq_getElem (by omega), List.getElem?_eq_getElem hj] at e
  exact Option.some.inj e
theorem del_keep {l L : List Ent} {what : Int} {i j : Nat} (h : DelInv l L what i j) (hj : j < l.length) (hw : (gE l j).wh ≠ what) : DelInv l (L.set i (gE l j)) what (i + 1) (j + 1) := by
  obtain ⟨h1, h2, h3, h4, h5⟩ := h
  refine ⟨by rw [List.length_set]; exact h1, by omega, by omega, ?_, ?_⟩
  · unfold keepW at *
    rw [← List.take_append_getElem hj, List.filter_append, ← h4, List.filter_cons_of_pos (by rw [gE_at hj] at hw; simpa using hw), List.filter_nil]
    have hi : i < (L.set i (gE l j)).length := by rw [List.length_set]; omega
    rw [← List.take_append_getElem hi, List.take_set_of_le (Nat.le_refl _), List.getElem_set_self, gE_at hj]
  · rw [List.drop_set_of_lt (by omega), ← List.drop_drop, ← List.drop_drop, h5]

theorem cellsOf_take (L : List Ent) (i : Nat) (hi : i ≤ L.length) : (cellsOf L).take (i * 3) = cellsOf (L.take i) := by
  have h1 := cellsOf_length (L.take i)
  rw [List.length_take, Nat.min_eq_left hi] at h1
  conv => lhs; rw [← List.take_append_drop i L, cellsOf_append]
  rw [← h1, List.take_left]
def DelPost (w : World) (g cap : Nat) (l : List Ent) (what : Int) (e : Ending) (w' : World) : Prop :=
  ∃ rest', e = .returned (.slice (some ⟨g, 0, none⟩) (keepW what l).length cap) ∧ PileAt w' g cap (keepW what l) rest' ∧ Chg w w' (fun k => k = g)
theorem keepW_none {what : Int} {l : List Ent} (h : ∀ x ∈ l, x.wh ≠ what) : keepW what l = l := by
  unfold keepW
  rw [List.filter_eq_self]
  intro x hx
  simpa using h x hx
set_option maxHeartbeats 1000000 in
theorem deleteFunc_any (g cap : Nat) (l : List Ent) (rest : List Value) (what : Int) (B : Nat) (hsm : l.length < 100000000000) (w : World) (hB : Blk w B 3 [.int .i64 what]) (h : PileAt w g cap l rest) (hBg : B ≠ g) :
    Calls Try.prog 22 #[.slice (some ⟨g, 0, none⟩) l.length cap, .func (.func 23) #[] #[.pointer (some ⟨B, 0, none⟩)]] w (DelPost w g cap l what) := by
  have H := Lib.hid h
  have HB := Lib.hid hB
  clear h hB
  go_enter Try.func22, Try.ntmps22
  go_wp2_with fail
  refine (indexFunc_any g cap l rest what B hsm w (HB.out.cell 0 _ rfl) H.out).mono ?_
  rintro e w1 ⟨hb, ⟨rfl, hn⟩ | ⟨k, rfl, hk, hkw, hkb⟩⟩
  · have HN := Lib.hid (And.intro hb hn)
    clear hb hn
    go_wp2
    go_ret
    refine ⟨rest, ?_, ?_, Chg.of_below HN.out.1⟩
    · rw [keepW_none HN.out.2]; rfl
    · rw [keepW_none HN.out.2]; exact H.out.below HN.out.1
  · have HN := Lib.hid (And.intro hb (And.intro hkw hkb))
    clear hb hkw hkb
    have hk1 : ((k : Int) == -1) = false := by rw [beq_eq_false_iff_ne]; omega
    go_wp2
    go_loopw [5, 6] (fun vi vj wr => ∃ (i j : Nat) (L : List Ent), vi = .int .i64 i ∧ vj = .int .i64 j ∧ i < j ∧ j ≤ l.length ∧ L.length ≤ l.length ∧ l.length ≤ L.length ∧ Hid (DelInv l L what i j ∧ PileAt wr g cap L rest ∧ Chg w wr (fun k => k = g))) (fun _ vj _ => l.length - (intOf vj).toNat)
    case atStart =>
      exact ⟨k, k + 1, l, rfl, by go_num, by omega, by omega, Nat.le_refl _, Nat.le_refl _, Lib.hid ⟨del_start hk HN.out.2.1 HN.out.2.2, H.out.below HN.out.1, Chg.of_below HN.out.1⟩⟩
    case round =>
      obtain ⟨i, j, L, rfl, rfl, hij, hjl, hL1, hL2, HI⟩ := hrel
      clear HN
      by_cases hlt : j < l.length
      · have HB1 := Lib.hid (HB.out.chg HI.out.2.2 hBg)
        obtain ⟨p0, p1, p2⟩ := HI.out.2.1.cells j (by omega)
        obtain ⟨q0, q1, q2⟩ := HI.out.2.1.cells i (by omega)
        have hf := HI.out.2.1.free
        have hgl := HI.out.2.1.blk.lt
        have hx : L[j] = gE l j := by rw [← gE_at (by omega)]; exact del_get HI.out.1 hlt
        generalize L[i]'(by omega) = y at *
        generalize L[j]'(by omega) = x at *
        have HX := Lib.hid hx
        clear hx
        have hil : (i : Int) < (l.length : Int) := by omega
        go_wp2_with fail
        refine (is_any x what B _ ((HB1.out.alloc _).cell 0 _ rfl)).mono ?_
        rintro e w1 ⟨rfl, rfl⟩
        by_cases hw : x.wh = what
        · have hwb : (x.wh == what) = true := beq_iff_eq.2 hw
          have HW := Lib.hid hw
          clear hw
          go_wp2
          go_roundw
          case rel =>
            exact ⟨i, j + 1, L, rfl, by go_num, by omega, by omega, hL1, hL2, Lib.hid ⟨del_skip HI.out.1 hlt (by rw [← HX.out]; exact HW.out), (HI.out.2.1.alloc _).alloc _, (HI.out.2.2.alloc _).alloc _⟩⟩
          case measure => simp [intOf]; omega
        · have hwb : (x.wh == what) = false := beq_eq_false_iff_ne.2 hw
          have HW := Lib.hid hw
          clear hw
          go_wp2
          go_roundw
          case rel =>
            refine ⟨i + 1, j + 1, L.set i x, by go_num, by go_num, by omega, by omega, by rw [List.length_set]; exact hL1, by rw [List.length_set]; exact hL2, Lib.hid ⟨?_, ?_, ?_⟩⟩
            · rw [HX.out]; exact del_keep HI.out.1 hlt (by rw [← HX.out]; exact HW.out)
            · exact ((HI.out.2.1.set i x (by omega)).alloc _).alloc _
            · exact (((((HI.out.2.2.setCell ⟨g, i * 3, none⟩ _ (fun _ => rfl)).setCell ⟨g, i * 3 + 1, none⟩ _ (fun _ => rfl)).setCell ⟨g, i * 3 + 2, none⟩ _ (fun _ => rfl)).alloc _).alloc _)
          case measure => simp [intOf]; omega
      · have hj : j = l.length := by omega
        subst hj
        have hkl : (keepW what l).length = i := by
          have h4 := HI.out.1.kept
          rw [List.take_of_length_le (Nat.le_refl _)] at h4
          rw [← h4, List.length_take]; omega
        have hblk := HI.out.2.1.blk
        have hcl := cellsOf_length L
        have hle := HI.out.2.1.le
        have hlen := HI.out.2.1.len
        have z49 := Try.zeroValue49
        have hclr : ∀ ty, (Builtin.clear_ #[43] ty #[.slice (some ⟨g, i * 3, none⟩) (l.length - i) (cap - i)]).run Try.prog wr = .ok (.tuple #[]) (wr.setRow g ((cellsOf L ++ rest).take (i * 3) ++ (Builtin.zeroCells #[.int .i64 0, .int .i64 0, .int .i64 0] (l.length - i)).toList ++ (cellsOf L ++ rest).drop (i * 3 + (l.length - i) * 3)).toArray) :=
          fun ty => run_clear_at wr 43 49 ty (.agg #[.int .i64 0, .int .i64 0, .int .i64 0]) Try.underlying43 z49 (by simp [Value.cells, Value.oneCell']) g (i * 3) (l.length - i) (cap - i) (by omega) 49 (cellsOf L ++ rest) hblk (by simp [Value.cells]; omega)
        clear z49
        go_wp2
        go_ret
        have hK : (cellsOf L ++ rest).take (i * 3) = cellsOf (keepW what l) := by
          have h4 := HI.out.1.kept
          rw [List.take_of_length_le (Nat.le_refl _)] at h4
          rw [← h4, List.take_append_of_le_length (by omega)]
          exact cellsOf_take L i (by omega)
        refine ⟨(Builtin.zeroCells #[.int .i64 0, .int .i64 0, .int .i64 0] (l.length - i)).toList ++ (cellsOf L ++ rest).drop (i * 3 + (l.length - i) * 3), by rw [hkl]; rfl, ⟨?_, by omega, H.out.max, ?_⟩, HI.out.2.2.trans (chg_setRow _ _ _) (fun _ _ h => h)⟩
        · rw [← hK]
          exact blk_setRow hblk _
        · rw [hkl, List.length_append, List.length_drop, List.length_append]
          have : (Builtin.zeroCells #[Value.int .i64 0, .int .i64 0, .int .i64 0] (l.length - i)).toList.length = (l.length - i) * 3 := by unfold Builtin.zeroCells; rw [Array.length_toList, Array.size_map, Array.size_range]; rfl
          rw [this]
          omega

/-! ### Cancel -/
theorem keep_perm {l m : List Ent} (h : l.Perm m) (what : Int) : (keepW what l).Perm (keepW what m) := h.filter _
theorem keep_le (what : Int) (l : List Ent) : (keepW what l).length ≤ l.length := List.length_filter_le _ _
def CancelPost (w : World) (base b : Nat) (v : Value) (m : List Ent) (ord what : Int) (e : Ending) (w' : World) : Prop :=
  ∃ v', e = .returned (.int .i64 ((m.length : Int) - (keepW what m).length)) ∧ AgS w' base b v' (keepW what m) ord ∧ v'.ownBlock = v.ownBlock ∧ Chg w w' (Foot b v)
theorem indexFunc_nil (A : Option Addr) (c : Nat) (f : Value) (w : World) :
    Calls Try.prog 31 #[.slice A 0 c, f] w fun e w' => e = .returned (.int .i64 (-1)) ∧ w = w' := by
  go_enter Try.func31, Try.ntmps31
  go_wp2
  go_loop [8] (fun v => v = .int .i64 0) (fun _ => 0)
  case atStart => exact rfl
  case round =>
    subst hrel
    go_wp2
    go_ret
    exact ⟨rfl, rfl⟩
/-- A pile without a row, or with an empty one. -/
theorem deleteFunc_nil (A : Option Addr) (c : Nat) (f : Value) (w : World) :
    Calls Try.prog 22 #[.slice A 0 c, f] w fun e w' => e = .returned (.slice A 0 c) ∧ w = w' := by
  go_enter Try.func22, Try.ntmps22
  go_wp2_with fail
  refine (indexFunc_nil A c f w).mono ?_
  rintro e w' ⟨rfl, rfl⟩
  go_wp2
  go_ret
  exact ⟨rfl, rfl⟩
def DelAgPost (w : World) (base : Nat) (v : Value) (l : List Ent) (what : Int) (e : Ending) (w' : World) : Prop :=
  ∃ v', e = .returned v' ∧ v'.ownBlock = v.ownBlock ∧ w'.ownsRow base 49 3 v' (keepW what l).length (cellsOf (keepW what l)) ∧ (∃ A c, v' = .slice A (keepW what l).length c) ∧ Chg w w' (fun k => some k = v.ownBlock)
theorem deleteFunc_ag (base b : Nat) (v o : Value) (l : List Ent) (what : Int) (B : Nat) (hsm : l.length < 100000000000) (w : World) (hB : Blk w B 3 [.int .i64 what]) (ha : Ag w base b v o l) (hBv : v.ownBlock ≠ some B) :
    Calls Try.prog 22 #[v, .func (.func 23) #[] #[.pointer (some ⟨B, 0, none⟩)]] w (DelAgPost w base v l what) := by
  cases l with
  | nil =>
    obtain ⟨A, c, rfl⟩ := ha.form
    exact (deleteFunc_nil A c _ w).mono fun e w' ⟨he, hw⟩ => by subst hw; exact ⟨_, he, rfl, ha.row, ⟨A, c, rfl⟩, Chg.refl _ _⟩
  | cons x l =>
    obtain ⟨g, cap, rest, rfl, hg, hp⟩ := ha.hp (by simp)
    refine (deleteFunc_any g cap (x :: l) rest what B hsm w hB hp.pile (fun e => hBv (by rw [e]; rfl))).mono fun e w' ⟨rest', he, hp', hc⟩ => ⟨_, he, rfl, pile_row hp' hg, ⟨_, _, rfl⟩, hc.mono (fun k _ hk => by rw [hk]; rfl)⟩

set_option maxHeartbeats 1000000 in
theorem cancel_any (base b : Nat) (v : Value) (m : List Ent) (ord what : Int) (hsm : m.length < 1000000000) (w : World) (h : AgS w base b v m ord) :
    Calls Try.prog 17 #[.pointer (some ⟨b, 0, none⟩), .int .i64 what] w (CancelPost w base b v m ord what) := by
  obtain ⟨A, c, hv⟩ := h.form
  obtain ⟨⟨l, ha, hh, hp⟩, hs, hpos⟩ := h
  have hll : l.length < 100000000000 := by have := hp.length_eq; omega
  have ha1 := ha.alloc (.cells #[.int .i64 what] 3)
  have hB := Blk.new w 3 [.int .i64 what]
  have hBv : v.ownBlock ≠ some w.heap.size := fun e => by have := (ha.row.lt _ e).2; omega
  have hbl := ha.blk.lt
  have H := Lib.hid (And.intro ha (And.intro hh (And.intro hp (And.intro hs (And.intro hpos (And.intro ha1 hB))))))
  have hc0 := ha.blk.cell 0 _ rfl
  have hc1 := ha1.blk.cell 0 _ rfl
  subst hv
  clear ha hh hp hs hpos ha1 hB
  go_enter Try.func17, Try.ntmps17
  go_wp2_with fail
  refine (deleteFunc_ag base b _ (.int .i64 ord) l what w.heap.size hll _ H.out.2.2.2.2.2.2 H.out.2.2.2.2.2.1 hBv).mono ?_
  rintro e w1 ⟨v1, rfl, hv1, hr1, ⟨A1, c1, rfl⟩, hch⟩
  obtain ⟨ha, hh, hp, hs, hpos, ha1, hB⟩ := H.out
  have hb1 : Blk w1 b 45 [.slice A m.length c, .int .i64 ord] := ha1.blk.chg hch (fun e => ha1.ne e.symm)
  have hc2 := hb1.cell 0 _ rfl
  have hf2 := hb1.free
  have H1 := Lib.hid (And.intro hv1 (And.intro hr1 (And.intro hch hb1)))
  clear hv1 hr1 hch hb1 ha hh hp hs hpos ha1 hB hc0 hc1
  go_wp2_with fail
  have ha2 : Ag (w1.setCell ⟨b, 0, none⟩ (.slice A1 (keepW what l).length c1)) base b (.slice A1 (keepW what l).length c1) (.int .i64 ord) (keepW what l) :=
    ⟨H1.out.2.2.2.set 0 _ (by simp), ownsRow_set H1.out.2.1 ⟨b, 0, none⟩ _ (by rw [H1.out.1]; exact H.out.1.ne), H.out.1.le, by rw [H1.out.1]; exact H.out.1.ne⟩
  have hk := keep_le what l
  refine (hinit_any base b _ (.int .i64 ord) (keepW what l) (by omega) _ ha2).mono ?_
  rintro e w2 ⟨l', rfl, ha3, hh3, hp3, hc3⟩
  have hc4 := ha3.blk.cell 0 _ rfl
  have hlm := (keep_perm H.out.2.2.1 what).length_eq
  have hmk := keep_le what m
  have H2 := Lib.hid (And.intro ha2 (And.intro ha3 (And.intro hh3 (And.intro hp3 (And.intro hc3 hlm)))))
  clear ha2 ha3 hh3 hp3 hc3 hc2 hf2
  rw [hlm] at hc4
  clear hlm
  go_wp2
  go_ret
  obtain ⟨ha2, ha3, hh3, hp3, hc3, hlm⟩ := H2.out
  refine ⟨_, rfl, ⟨⟨l', ha3, hh3, hp3.trans (keep_perm H.out.2.2.1 what)⟩, srt_filter _ H.out.2.2.2.1, H.out.2.2.2.2.1⟩, H1.out.1, ?_⟩
  have hA : Chg w (w.alloc (.cells [Value.int .i64 what].toArray 3)) (Foot b (.slice A m.length c)) := (Chg.refl w _).alloc _
  refine ((hA.trans H1.out.2.2.1 (fun i _ h => .inr h)).setCell ⟨b, 0, none⟩ _ (fun _ => .inl rfl)).trans hc3 ?_
  rintro i hi (rfl | hk)
  · exact .inl rfl
  · exact .inr (by rw [hk]; exact H1.out.1)
end Go.Proofs.Ytlccileccmiomaa
