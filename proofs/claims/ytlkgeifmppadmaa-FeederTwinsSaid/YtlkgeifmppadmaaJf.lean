/- The heap's Pop and Init; the agenda's New, Add, Next, Due, Len. The agenda's New, Add, Next, Due, Len, over its list in order. The agenda's Cancel: its closure, slices.IndexFunc and slices.DeleteFunc over a pile. Slices of ints; broadsheetbook's Within. The reference's new owner, and which blocks are its own. Appending whatever is shown, and where the new row lies. No program in sight. Seeds and hashes that are asked most; the law's owners. The program's copies of texts. Conditions: as each theorem states them. -/
import Derived.Test.YtlkgeifmppadmaaJe
import Derived.Test.YtlkgeifmppadmaaJc
import Derived.Test.YtlkgeifmppadmaaJa
import Derived.Test.YtlkgeifmppadmaaJb
namespace Go.Proofs.Ytlkgeifmppadmaa
open Go.RowKit
set_option linter.unusedVariables false
set_option maxRecDepth 100000
set_option linter.unusedSimpArgs false

/-- What Pop leaves: the least entry, and the others as a heap. -/
def PopPost (w : World) (base b : Nat) (v o : Value) (l : List Ent) (e : Ending) (w' : World) : Prop :=
  ∃ (x : Ent) (v' : Value) (l' : List Ent), e = .returned (.iface 117 (.agg #[.int .i64 x.tm, .int .i64 x.ord, .int .i64 x.wh])) ∧ x = gE l 0 ∧ Ag w' base b v' o l' ∧ HeapFrom l' 0 l'.length ∧ (l' ++ [x]).Perm l ∧ v'.ownBlock = v.ownBlock ∧ Chg w w' (Foot b v)

theorem list_last {l : List Ent} {n : Nat} (h : l.length = n + 1) : l = l.take n ++ [gE l n] := by
  rw [gE_at (by omega), List.take_append_getElem (by omega), List.take_of_length_le (by omega)]

set_option maxHeartbeats 1000000 in
theorem hpop_any (base b : Nat) (v o : Value) (l : List Ent) (h0 : 0 < l.length) (hsm : l.length < 100000000000) (w : World) (ha : Ag w base b v o l) (hh : HeapFrom l 0 l.length) :
    Calls Try.prog 61 #[.iface 119 (.pointer (some ⟨b, 0, none⟩))] w (PopPost w base b v o l) := by
  have HA := Lib.hid ha
  have HH := Lib.hid hh
  obtain ⟨g, cap, rest, rfl, hg, hp⟩ := ha.hp h0
  have HP := Lib.hid hp
  have hcell := hp.cell
  have hmL := meth_Len b (some ⟨g, 0, none⟩) l.length cap w hcell
  have hmS := meth_Swap b (some ⟨g, 0, none⟩) l.length cap w hcell
  have hmP := meth_Pop
  clear ha hh hp hcell
  go_enter Try.func61, Try.ntmps61
  go_wp2_with fail
  refine (len_any _ _ _ _).mono ?_
  rintro e w' ⟨rfl, rfl⟩
  go_wp2_with fail
  refine (swap_b b g cap l rest o _ _ 0 (l.length - 1) rfl (by omega) (by omega) (by omega) w HP.out).mono ?_
  rintro e w1 ⟨rfl, HS⟩
  clear hmL hmS
  go_wp2_with fail
  rw [show ((l.length : Int) - 1) = ((l.length - 1 : Nat) : Int) by omega]
  refine (down_any b g cap (sw l 0 (l.length - 1)) rest o 0 (l.length - 1) (by rw [sw_length]; omega) (Nat.zero_le _) (by rw [sw_length]; omega) w1 HS.out.1 ?_).mono ?_
  · intro k k0 k1 hk
    rw [gE_sw l _ _ _ (by omega) (by omega), gE_sw l _ _ _ (by omega) (by omega), if_neg (by omega), if_neg (by omega), if_neg (by omega), if_neg (by omega)]
    exact HH.out k k0 (by omega) (by omega)
  rintro e w2 ⟨d, l2, rfl, hperm, hheap, hout, hp2, hc2⟩
  have hlen2 : l2.length = (l.length - 1) + 1 := by rw [hperm.length_eq, sw_length]; omega
  have hx : gE l2 (l.length - 1) = gE l 0 := by rw [hout _ (Nat.le_refl _), gE_sw l _ _ _ (by omega) (by omega), if_pos rfl]
  have hsplit := list_last hlen2
  rw [hx] at hsplit
  have hlt : (l2.take (l.length - 1)).length = l.length - 1 := by rw [List.length_take]; omega
  have hg2 : ∀ k, k < l.length - 1 → gE (l2.take (l.length - 1)) k = gE l2 k := fun k hk => by simp [gE, List.getD_eq_getElem?_getD, List.getElem?_take, hk]
  generalize l2.take (l.length - 1) = l3 at *
  have hb2 := hp2.blk
  have hpl2 := hp2.pile
  rw [hlen2, ← hlt] at hb2
  rw [hsplit] at hpl2
  have HR := Lib.hid (And.intro hperm (And.intro hheap (And.intro hp2 (And.intro hc2 (And.intro hlen2 (And.intro hsplit (And.intro hlt hg2)))))))
  have HB2 := Lib.hid hb2
  have HP2 := Lib.hid hpl2
  clear hperm hheap hout hp2 hc2 hlen2 hx hsplit hlt hg2 hb2 hpl2
  go_wp2_with fail
  refine (pop_any b g cap l3 (gE l 0) rest o w2 HB2.out HP2.out HP.out.ne).mono ?_
  rintro e w3 ⟨rfl, hb3, hp3, hc3⟩
  have H3 := Lib.hid (And.intro hb3 (And.intro hp3 hc3))
  clear hb3 hp3 hc3
  go_wp2
  go_ret
  obtain ⟨hperm, hheap, hp2, hc2, hlen2, hsplit, hlt, hg2⟩ := HR.out
  obtain ⟨hb3, hp3, hc3⟩ := H3.out
  refine ⟨gE l 0, _, l3, rfl, rfl, (Hp.mk hb3 hp3 HP.out.ne).ag HA.out.le hg, ?_, ?_, rfl, ?_⟩
  · intro k k0 k1 hk
    rw [hg2 k (by omega), hg2 _ (by omega)]
    exact hheap k k0 (by omega) hk
  · rw [← hsplit]
    exact hperm.trans (sw_perm l _ _ (by omega) (by omega))
  · refine ((HS.out.2.mono (fun k _ hk => .inr ?_)).trans hc2 (fun i _ h => .inr ?_)).trans hc3 (fun i _ h => .inl h)
    · rw [hk]; rfl
    · rw [h]; rfl

theorem Ag.form {w : World} {base b : Nat} {v o : Value} {l : List Ent} (h : Ag w base b v o l) : ∃ A c, v = .slice A l.length c := by
  rcases h.row.2 with ⟨rfl, h2⟩ | ⟨g, cap, cur, rfl, _⟩
  · exact ⟨none, 0, by rw [h2]⟩
  · exact ⟨_, _, rfl⟩
def InitPost (w : World) (base b : Nat) (v o : Value) (l : List Ent) (e : Ending) (w' : World) : Prop :=
  ∃ l' : List Ent, e = .returned (.tuple #[]) ∧ Ag w' base b v o l' ∧ HeapFrom l' 0 l'.length ∧ l'.Perm l ∧ Chg w w' (Foot b v)
set_option maxHeartbeats 1000000 in
theorem hinit_any (base b : Nat) (v o : Value) (l : List Ent) (hsm : l.length < 100000000000) (w : World) (ha : Ag w base b v o l) :
    Calls Try.prog 82 #[.iface 119 (.pointer (some ⟨b, 0, none⟩))] w (InitPost w base b v o l) := by
  have HA := Lib.hid ha
  obtain ⟨A, c, hv⟩ := ha.form
  subst hv
  have hcell := ha.blk.cell 0 _ rfl
  have hmL := meth_Len b A l.length c w hcell
  clear ha hcell
  go_enter Try.func82, Try.ntmps82
  go_wp2_with fail
  refine (len_any _ _ _ _).mono ?_
  rintro e w' ⟨rfl, rfl⟩
  clear hmL
  go_wp2
  go_loopw [3] (fun x wr => ∃ (k : Nat) (l' : List Ent), x = .int .i64 ((k : Int) - 1) ∧ k ≤ l.length ∧ l'.length ≤ l.length ∧ l.length ≤ l'.length ∧ Hid (l'.Perm l ∧ HeapFrom l' k l.length ∧ Ag wr base b (.slice A l.length c) o l' ∧ Chg w wr (Foot b (.slice A l.length c)))) (fun x _ => (intOf x + 1).toNat)
  case atStart =>
    refine ⟨l.length / 2, l, by congr 1, by omega, Nat.le_refl _, Nat.le_refl _, Lib.hid ⟨List.Perm.refl _, ?_, HA.out, Chg.refl _ _⟩⟩
    intro k k0 k1 hk
    omega
  case round =>
    obtain ⟨k, l', rfl, hk, hl1, hl2, HI⟩ := hrel
    by_cases hz : k = 0
    · subst hz
      go_wp2
      go_end0
      have hll : l'.length = l.length := by omega
      exact ⟨l', rfl, HI.out.2.2.1, by rw [hll]; exact HI.out.2.1, HI.out.1, HI.out.2.2.2⟩
    · have hll := Lib.hid (show l'.length = l.length by omega)
      obtain ⟨g, cap, rest, hv, hg, hp⟩ := HI.out.2.2.1.hp (by omega)
      have HV := Lib.hid (And.intro hv (And.intro hg hp))
      clear hv hg hp
      go_wp2_with fail
      rw [show ((k : Int) - 1) = ((k - 1 : Nat) : Int) by omega]
      refine (down_any b g cap l' rest o (k - 1) l.length (by omega) (by omega) (by omega) wr HV.out.2.2 ?_).mono ?_
      · rw [show k - 1 + 1 = k by omega]
        exact HI.out.2.1
      rintro e w2 ⟨d, l2, rfl, hperm, hheap, hout, hp2, hc2⟩
      have HR := Lib.hid (And.intro hperm (And.intro hheap (And.intro hp2 hc2)))
      clear hperm hheap hout hp2 hc2
      go_wp2
      go_roundw
      case rel =>
        obtain ⟨hperm, hheap, hp2, hc2⟩ := HR.out
        obtain ⟨hv, hg, hp⟩ := HV.out
        have e2 : l2.length = l.length := by rw [hperm.length_eq]; exact hll.out
        refine ⟨k - 1, l2, by congr 1, by omega, by omega, by omega, Lib.hid ⟨hperm.trans HI.out.1, hheap, ?_, HI.out.2.2.2.trans hc2 ?_⟩⟩
        · have := hp2.ag HA.out.le hg
          rw [e2, ← hll.out, ← hv] at this
          exact this
        · rintro i hi rfl
          exact .inr (by rw [hv]; rfl)
      case measure => simp [intOf]; omega
end Go.Proofs.Ytlkgeifmppadmaa
namespace Go.Proofs.Ytlkgeifmppadmaa
open Go.RowKit
set_option linter.unusedVariables false
set_option maxRecDepth 100000
set_option linter.unusedSimpArgs false

/-! ### The list in order -/
def Ent.bef (a b : Ent) : Prop := a.tm < b.tm ∨ (a.tm = b.tm ∧ a.ord < b.ord)
def insE (x : Ent) : List Ent → List Ent
  | [] => [x]
  | y :: m => if y.tm ≤ x.tm then y :: insE x m else x :: y :: m
theorem insE_perm (x : Ent) (m : List Ent) : (insE x m).Perm (m ++ [x]) := by
  induction m with
  | nil => exact List.Perm.refl _
  | cons y m ih =>
    unfold insE
    split
    · exact ih.cons y
    · exact (List.perm_append_singleton x (y :: m)).symm
def Srt (m : List Ent) (ord : Int) : Prop := m.Pairwise Ent.bef ∧ ∀ e ∈ m, e.ord < ord
theorem insE_mem {x y : Ent} {m : List Ent} (h : y ∈ insE x m) : y = x ∨ y ∈ m := by
  have := (insE_perm x m).mem_iff.1 h
  rw [List.mem_append, List.mem_singleton] at this
  exact this.symm
theorem insE_srt {m : List Ent} {ord : Int} (tm wh : Int) (h : Srt m ord) : Srt (insE ⟨tm, ord, wh⟩ m) (ord + 1) := by
  obtain ⟨h1, h2⟩ := h
  refine ⟨?_, fun e he => ?_⟩
  · induction m with
    | nil => exact List.pairwise_singleton _ _
    | cons y m ih =>
      rw [List.pairwise_cons] at h1
      have hy := h2 y List.mem_cons_self
      unfold insE
      split
      · rename_i hle
        rw [List.pairwise_cons]
        refine ⟨fun z hz => ?_, ih h1.2 (fun e he => h2 e (List.mem_cons_of_mem _ he))⟩
        rcases insE_mem hz with rfl | hz
        · unfold Ent.bef
          simp only at *
          omega
        · exact h1.1 z hz
      · rename_i hle
        rw [List.pairwise_cons]
        refine ⟨fun z hz => ?_, List.pairwise_cons.2 h1⟩
        have hb : y.tm ≤ z.tm := by
          rcases List.mem_cons.1 hz with rfl | hz
          · exact Int.le_refl _
          · have := h1.1 z hz; unfold Ent.bef at this; omega
        unfold Ent.bef
        simp only at *
        omega
  · rcases insE_mem he with rfl | he
    · simp only; omega
    · have := h2 e he; omega
theorem srt_mono {m : List Ent} {a b : Int} (h : Srt m a) (hab : a ≤ b) : Srt m b := ⟨h.1, fun e he => by have := h.2 e he; omega⟩
theorem srt_tail {x : Ent} {m : List Ent} {a : Int} (h : Srt (x :: m) a) : Srt m a := ⟨(List.pairwise_cons.1 h.1).2, fun e he => h.2 e (List.mem_cons_of_mem _ he)⟩
theorem srt_filter {m : List Ent} {a : Int} (p : Ent → Bool) (h : Srt m a) : Srt (m.filter p) a := ⟨h.1.filter _, fun e he => h.2 e (List.mem_filter.1 he).1⟩
/-- The heap's root is the first one. -/
theorem root_first {l m : List Ent} {x : Ent} {a : Int} (hh : HeapFrom l 0 l.length) (hp : l.Perm (x :: m)) (hs : Srt (x :: m) a) : gE l 0 = x := by
  have hl : 0 < l.length := by rw [hp.length_eq]; simp
  have hx : x ∈ l := hp.mem_iff.2 List.mem_cons_self
  obtain ⟨k, hk, e⟩ := List.getElem_of_mem hx
  have h1 := heap_min hh k hk
  rw [gE_at hk, e] at h1
  have h2 : gE l 0 ∈ x :: m := hp.mem_iff.1 (by rw [gE_at hl]; exact List.getElem_mem _)
  rcases List.mem_cons.1 h2 with h2 | h2
  · exact h2
  · have := (List.pairwise_cons.1 hs.1).1 _ h2
    unfold Ent.bef at this
    unfold Ent.le at h1
    omega

/-- An agenda: what it has, in order. -/
structure AgS (w : World) (base b : Nat) (v : Value) (m : List Ent) (ord : Int) : Prop where
  ag : ∃ l, Ag w base b v (.int .i64 ord) l ∧ HeapFrom l 0 l.length ∧ l.Perm m
  srt : Srt m ord
  pos : 0 ≤ ord
namespace AgS
variable {w w1 : World} {base b : Nat} {v : Value} {m : List Ent} {ord : Int} {S : Nat → Prop}
theorem chg (h : AgS w base b v m ord) (hc : Chg w w1 S) (hn : ∀ k, Foot b v k → ¬ S k) : AgS w1 base b v m ord := by
  obtain ⟨⟨l, h1, h2⟩, h3, h4⟩ := h
  exact ⟨⟨l, h1.chg hc hn, h2⟩, h3, h4⟩
theorem below (h : AgS w base b v m ord) (hb : Below w.heap.size w w1) : AgS w1 base b v m ord := h.chg (Chg.of_below (S := fun _ => False) hb) (fun _ _ h => h)
theorem foot_lt (h : AgS w base b v m ord) : ∀ k, Foot b v k → k < w.heap.size := by obtain ⟨⟨l, h1, _⟩, _⟩ := h; exact h1.foot_lt
theorem foot_ge (h : AgS w base b v m ord) : ∀ k, Foot b v k → base ≤ k := by obtain ⟨⟨l, h1, _⟩, _⟩ := h; exact h1.foot_ge
theorem blk (h : AgS w base b v m ord) : Blk w b 105 [v, .int .i64 ord] := by obtain ⟨⟨l, h1, _⟩, _⟩ := h; exact h1.blk
theorem form (h : AgS w base b v m ord) : ∃ A c, v = .slice A m.length c := by
  obtain ⟨⟨l, h1, _, h2⟩, _⟩ := h
  rw [← h2.length_eq]
  exact h1.form
end AgS

theorem new_any (w : World) : Calls Try.prog 27 #[] w fun e w' => e = .returned (.pointer (some ⟨w.heap.size, 0, none⟩)) ∧ AgS w' w.heap.size w.heap.size (.slice none 0 0) [] 0 ∧ Below w.heap.size w w' := by
  go_enter Try.func27, Try.ntmps27
  go_wp2
  go_ret
  refine ⟨rfl, ⟨⟨[], ⟨Blk.new w _ _, World.ownsRow_nil _ _ _ _, Nat.le_refl _, by simp [Value.ownBlock]⟩, fun k k0 k1 _ => absurd k1 (Nat.not_lt_zero _), List.Perm.refl _⟩, ⟨List.Pairwise.nil, fun e he => by cases he⟩, Int.le_refl _⟩, (Below.refl _ _).alloc (Nat.le_refl _) _⟩

theorem alen_any (base b : Nat) (v : Value) (m : List Ent) (ord : Int) (w : World) (h : AgS w base b v m ord) : Calls Try.prog 118 #[.pointer (some ⟨b, 0, none⟩)] w fun e w' => e = .returned (.int .i64 m.length) ∧ w = w' := by
  obtain ⟨A, c, rfl⟩ := h.form
  have hc := h.blk.cell 0 _ rfl
  clear h
  go_enter Try.func118, Try.ntmps118
  go_wp2
  go_ret
  exact ⟨rfl, rfl⟩

def AddPost (w : World) (base b : Nat) (v : Value) (m : List Ent) (ord tm wh : Int) (e : Ending) (w' : World) : Prop :=
  ∃ v', e = .returned (.tuple #[]) ∧ AgS w' base b v' (insE ⟨tm, ord, wh⟩ m) (ord + 1) ∧ (v'.ownBlock = v.ownBlock ∨ ∃ k, v'.ownBlock = some k ∧ w.heap.size ≤ k) ∧ Chg w w' (Foot b v)
set_option maxHeartbeats 1000000 in
theorem add_any (base b : Nat) (v : Value) (m : List Ent) (ord tm wh : Int) (hsm : m.length < 100000000) (ho : ord < 100000000000) (w : World) (h : AgS w base b v m ord) :
    Calls Try.prog 59 #[.pointer (some ⟨b, 0, none⟩), .int .i64 tm, .int .i64 wh] w (AddPost w base b v m ord tm wh) := by
  have HS := Lib.hid h.srt
  have h0 := h.pos
  obtain ⟨⟨l, ha, hh, hp⟩, _, _⟩ := h
  have hlm := hp.length_eq
  have hll : l.length < 100000000000 := by omega
  have HA := Lib.hid (And.intro ha (And.intro hh hp))
  have hc := ha.blk.cell 0 _ rfl
  have hc1 := ha.blk.cell 1 _ rfl
  clear ha hh hp hlm
  go_enter Try.func59, Try.ntmps59
  go_wp2
  go_still_tail 12, (by kernel_rfl)
  go_wp2_with fail
  refine (hpush_any base b v (.int .i64 ord) l ⟨tm, ord, wh⟩ hll _ (HA.out.1.drewN 1) HA.out.2.1).mono ?_
  rintro e w1 ⟨rfl, v', l', ha1, hh1, hp1, hat, hch⟩
  have hc2 := ha1.blk.cell 1 _ rfl
  have hf2 := ha1.blk.free
  have HR := Lib.hid (And.intro ha1 (And.intro hh1 (And.intro hp1 (And.intro hat hch))))
  clear ha1 hh1 hp1 hat hch hc hc1
  go_wp2
  go_end0
  obtain ⟨ha1, hh1, hp1, hat, hch⟩ := HR.out
  refine ⟨v', rfl, ⟨⟨l', ⟨?_, ?_, ha1.le, ha1.ne⟩, hh1, ?_⟩, insE_srt tm wh HS.out, by omega⟩, hat, ?_⟩
  · exact ha1.blk.set 1 _ (by simp)
  · exact ownsRow_set ha1.row ⟨b, 1, none⟩ _ ha1.ne
  · exact hp1.trans ((HA.out.2.2.append_right _).trans (insE_perm _ _).symm)
  · have h1 : Chg w w1 (Foot b v) := ⟨hch.os, hch.tape, hch.output, hch.size, hch.block⟩
    exact h1.setCell ⟨b, 1, none⟩ _ (fun _ => .inl rfl)

/-! ### Next, Due -/
theorem next_none (base b : Nat) (v : Value) (ord : Int) (w : World) (h : AgS w base b v [] ord) :
    Calls Try.prog 60 #[.pointer (some ⟨b, 0, none⟩)] w fun e w' => e = .returned (.tuple #[.int .i64 0, .int .i64 0, .bool false]) ∧ ∃ n, w' = w.drewN n := by
  obtain ⟨A, c, rfl⟩ := h.form
  have hc := h.blk.cell 0 _ rfl
  clear h
  simp only [List.length_nil] at hc
  go_enter Try.func60, Try.ntmps60
  go_wp2
  go_ret3
  exact ⟨rfl, 0, rfl⟩
theorem next_some (base b : Nat) (v : Value) (x : Ent) (m : List Ent) (ord : Int) (w : World) (h : AgS w base b v (x :: m) ord) :
    Calls Try.prog 60 #[.pointer (some ⟨b, 0, none⟩)] w fun e w' => e = .returned (.tuple #[.int .i64 x.tm, .int .i64 x.wh, .bool true]) ∧ ∃ n, w' = w.drewN n := by
  obtain ⟨⟨l, ha, hh, hp⟩, hs, _⟩ := h
  have hr := root_first hh hp hs
  have hl : 0 < l.length := by rw [hp.length_eq]; simp
  obtain ⟨g, cap, rest, rfl, hg, hp2⟩ := ha.hp hl
  obtain ⟨p0, p1, p2⟩ := hp2.pile.cells 0 hl
  rw [gE_at hl] at hr
  rw [hr] at p0 p1 p2
  have hc := hp2.cell
  have hl' : (0 : Int) < (l.length : Int) := by omega
  have hne : ((l.length : Int) == 0) = false := by rw [beq_eq_false_iff_ne]; omega
  simp only [Nat.zero_mul, Nat.zero_add] at p0 p1 p2
  clear ha hh hp hs hr hg hp2
  go_enter Try.func60, Try.ntmps60
  go_wp2
  go_quiet (fail)
  go_wp2
  go_ret3
  exact ⟨rfl, _, rfl⟩

theorem due_none (base b : Nat) (v : Value) (ord now : Int) (w : World) (h : AgS w base b v [] ord) :
    Calls Try.prog 36 #[.pointer (some ⟨b, 0, none⟩), .int .i64 now] w fun e w' => e = .returned (.tuple #[.int .i64 0, .bool false]) ∧ ∃ n, w' = w.drewN n := by
  have H := Lib.hid h
  clear h
  go_enter Try.func36, Try.ntmps36
  go_wp2_with fail
  refine (next_none base b v ord w H.out).mono ?_
  rintro e w1 ⟨rfl, n, rfl⟩
  go_wp2
  go_ret2
  exact ⟨rfl, _, rfl⟩
theorem due_early (base b : Nat) (v : Value) (x : Ent) (m : List Ent) (ord now : Int) (hn : now < x.tm) (w : World) (h : AgS w base b v (x :: m) ord) :
    Calls Try.prog 36 #[.pointer (some ⟨b, 0, none⟩), .int .i64 now] w fun e w' => e = .returned (.tuple #[.int .i64 0, .bool false]) ∧ ∃ n, w' = w.drewN n := by
  have H := Lib.hid h
  clear h
  go_enter Try.func36, Try.ntmps36
  go_wp2_with fail
  refine (next_some base b v x m ord w H.out).mono ?_
  rintro e w1 ⟨rfl, n, rfl⟩
  go_wp2
  go_ret2
  exact ⟨rfl, _, rfl⟩
def DuePost (w : World) (base b : Nat) (v : Value) (x : Ent) (m : List Ent) (ord : Int) (e : Ending) (w' : World) : Prop :=
  ∃ v', e = .returned (.tuple #[.int .i64 x.wh, .bool true]) ∧ AgS w' base b v' m ord ∧ v'.ownBlock = v.ownBlock ∧ Chg w w' (Foot b v)
theorem run_assert2 (y : Value) (w : World) : (Instr.typeAssert (.iface 117 y) 20 117 false).run Try.prog w = .ok y w := by kernel_rfl
theorem run_field2 (x y z : Value) (w : World) : (Instr.field 117 (.agg #[x, y, z]) 2).run Try.prog w = .ok z w := by kernel_rfl
set_option maxHeartbeats 1000000 in
theorem due_yes (base b : Nat) (v : Value) (x : Ent) (m : List Ent) (ord now : Int) (hsm : m.length < 10000000000) (hn : x.tm ≤ now) (w : World) (h : AgS w base b v (x :: m) ord) :
    Calls Try.prog 36 #[.pointer (some ⟨b, 0, none⟩), .int .i64 now] w (DuePost w base b v x m ord) := by
  have H := Lib.hid h
  clear h
  have hta := run_assert
  have hfi := run_field2
  go_enter Try.func36, Try.ntmps36
  go_wp2_with fail
  refine (next_some base b v x m ord w H.out).mono ?_
  rintro e w1 ⟨rfl, n, rfl⟩
  obtain ⟨⟨l, ha, hh, hp⟩, hs, hpos⟩ := H.out
  have hr := root_first hh hp hs
  have hlen := hp.length_eq
  have H2 := Lib.hid (And.intro ha (And.intro hh (And.intro hp (And.intro hs (And.intro hpos (And.intro hr hlen))))))
  clear ha hh hp hs hpos hr hlen
  go_wp2_with fail
  refine (hpop_any base b v (.int .i64 ord) l (by rw [H2.out.2.2.2.2.2.2]; simp) (by rw [H2.out.2.2.2.2.2.2]; simp; omega) _ (H2.out.1.drewN n) H2.out.2.1).mono ?_
  rintro e w2 ⟨y, v', l', rfl, hy, ha', hh', hp', hvv, hc⟩
  have HR := Lib.hid (And.intro hy (And.intro ha' (And.intro hh' (And.intro hp' (And.intro hvv hc)))))
  clear hy ha' hh' hp' hvv hc
  go_wp2
  go_ret2
  obtain ⟨hy, ha', hh', hp', hvv, hc⟩ := HR.out
  obtain ⟨ha, hh, hp, hs, hpos, hr, hlen⟩ := H2.out
  rw [hr] at hy
  subst hy
  refine ⟨v', rfl, ⟨⟨l', ha', hh', ?_⟩, srt_tail hs, hpos⟩, hvv, ⟨hc.os, hc.tape, hc.output, hc.size, hc.block⟩⟩
  have h3 : (y :: l').Perm (y :: m) := (List.perm_append_singleton y l').symm.trans (hp'.trans hp)
  exact (List.perm_cons y).1 h3
end Go.Proofs.Ytlkgeifmppadmaa
namespace Go.Proofs.Ytlkgeifmppadmaa
open Go.RowKit
set_option linter.unusedVariables false
set_option maxRecDepth 100000
set_option linter.unusedSimpArgs false

/-- The closure: is it that thing? -/
theorem is_any (x : Ent) (what : Int) (B : Nat) (w : World) (hB : w.cell? ⟨B, 0, none⟩ = some (.int .i64 what)) :
    Calls Try.prog 81 #[.agg #[.int .i64 x.tm, .int .i64 x.ord, .int .i64 x.wh], .pointer (some ⟨B, 0, none⟩)] w fun e w' => e = .returned (.bool (x.wh == what)) ∧ w' = w.alloc (.cells x.cells.toArray 117) := by
  have hlt : B < w.heap.size := World.block_lt_of_cell? w _ hB
  go_enter Try.func81, Try.ntmps81
  go_wp2
  go_ret
  exact ⟨rfl, rfl⟩

/-- The first one that is it, or -1. -/
def idxW (what : Int) (l : List Ent) : Int := match l.findIdx? (fun x => x.wh == what) with | some k => k | none => -1
def IdxPost (w : World) (what : Int) (l : List Ent) (e : Ending) (w' : World) : Prop :=
  Below w.heap.size w w' ∧ ((e = .returned (.int .i64 (-1)) ∧ ∀ x ∈ l, x.wh ≠ what) ∨ ∃ k, e = .returned (.int .i64 (k : Nat)) ∧ k < l.length ∧ (gE l k).wh = what ∧ ∀ j, j < k → (gE l j).wh ≠ what)
set_option maxHeartbeats 1000000 in
theorem indexFunc_any (g cap : Nat) (l : List Ent) (rest : List Value) (what : Int) (B : Nat) (hsm : l.length < 100000000000) (w : World) (hB : w.cell? ⟨B, 0, none⟩ = some (.int .i64 what)) (h : PileAt w g cap l rest) :
    Calls Try.prog 91 #[.slice (some ⟨g, 0, none⟩) l.length cap, .func (.func 81) #[] #[.pointer (some ⟨B, 0, none⟩)]] w (IdxPost w what l) := by
  have H := Lib.hid h
  have HB := Lib.hid hB
  clear h hB
  go_enter Try.func91, Try.ntmps91
  go_wp2
  go_loopw [8] (fun v wr => ∃ k : Nat, v = .int .i64 k ∧ k ≤ l.length ∧ Hid (Below w.heap.size w wr ∧ ∀ j, j < k → (gE l j).wh ≠ what)) (fun v _ => l.length - (intOf v).toNat)
  case atStart => exact ⟨0, rfl, Nat.zero_le _, Lib.hid ⟨Below.refl _ _, fun j hj => absurd hj (Nat.not_lt_zero _)⟩⟩
  case round =>
    obtain ⟨k, rfl, hk, HI⟩ := hrel
    by_cases hlt : k < l.length
    · obtain ⟨p0, p1, p2⟩ := (H.out.below HI.out.1).cells k hlt
      have hx := gE_at hlt
      generalize l[k] = x at *
      have HX := Lib.hid hx
      clear hx
      go_wp2_with fail
      refine (is_any x what B wr ((HI.out.1.cell (World.block_lt_of_cell? w _ HB.out)).trans HB.out)).mono ?_
      rintro e w1 ⟨rfl, rfl⟩
      have hb1 := Lib.hid (HI.out.1.alloc HI.out.1.size (.cells x.cells.toArray 117))
      generalize wr.alloc (.cells x.cells.toArray 117) = w1 at *
      clear p0 p1 p2
      by_cases hw : x.wh = what
      · have hwb : (x.wh == what) = true := beq_iff_eq.2 hw
        have HW := Lib.hid hw
        clear hw
        go_wp2
        go_ret
        exact ⟨hb1.out, .inr ⟨k, rfl, hlt, by rw [HX.out]; exact HW.out, HI.out.2⟩⟩
      · have hwb : (x.wh == what) = false := beq_eq_false_iff_ne.2 hw
        have HW := Lib.hid hw
        clear hw
        go_wp2
        go_roundw
        case rel =>
          refine ⟨k + 1, by go_num, by omega, Lib.hid ⟨hb1.out, fun j hj => ?_⟩⟩
          by_cases e : j = k
          · rw [e, HX.out]; exact HW.out
          · exact HI.out.2 j (by omega)
        case measure => simp [intOf]; omega
    · go_wp2
      go_ret
      refine ⟨HI.out.1, .inl ⟨rfl, fun x hx => ?_⟩⟩
      obtain ⟨j, hj, rfl⟩ := List.getElem_of_mem hx
      rw [← gE_at hj]
      exact HI.out.2 j (by omega)

/-! ### DeleteFunc -/
def keepW (what : Int) (l : List Ent) : List Ent := l.filter (fun x => x.wh != what)
/-- The round's state: the first i places hold what is kept of the first j. -/
structure DelInv (l L : List Ent) (what : Int) (i j : Nat) : Prop where
  len : L.length = l.length
  ij : i < j
  jl : j ≤ l.length
  kept : L.take i = keepW what (l.take j)
  rest : L.drop j = l.drop j
theorem del_start {l : List Ent} {what : Int} {k : Nat} (hk : k < l.length) (hw : (gE l k).wh = what) (hb : ∀ j, j < k → (gE l j).wh ≠ what) : DelInv l l what k (k + 1) := by
  refine ⟨rfl, by omega, by omega, ?_, rfl⟩
  unfold keepW
  rw [← List.take_append_getElem hk, List.filter_append, List.filter_cons_of_neg (by rw [gE_at hk] at hw; simp [hw]), List.filter_nil, List.append_nil]
  symm
  rw [List.filter_eq_self]
  intro x hx
  obtain ⟨j, hj, rfl⟩ := List.getElem_of_mem hx
  rw [List.length_take] at hj
  have := hb j (by omega)
  rw [gE_at (by omega)] at this
  simpa using this
theorem del_skip {l L : List Ent} {what : Int} {i j : Nat} (h : DelInv l L what i j) (hj : j < l.length) (hw : (gE l j).wh = what) : DelInv l L what i (j + 1) := by
  obtain ⟨h1, h2, h3, h4, h5⟩ := h
  refine ⟨h1, by omega, by omega, ?_, ?_⟩
  · unfold keepW at *
    rw [← List.take_append_getElem hj, List.filter_append, ← h4, List.filter_cons_of_neg (by rw [gE_at hj] at hw; simp [hw])]
    simp
  · rw [← List.drop_drop, ← List.drop_drop, h5]
theorem del_get {l L : List Ent} {what : Int} {i j : Nat} (h : DelInv l L what i j) (hj : j < l.length) : gE L j = gE l j := by
  have h1 := h.len
  rw [gE_at (by omega), gE_at hj]
  have e : (L.drop j)[0]? = (l.drop j)[0]? := by rw [h.rest]
  simp only [List.getElem?_drop, Nat.add_zero] at e
  rw [List.getElem?_eq_getElem (by omega), List.getElem?_eq_getElem hj] at e
  exact Option.some.inj e
theorem del_keep {l L : List Ent} {what : Int} {i j : Nat} (h : DelInv l L what i j) (hj : j < l.length) (hw : (gE l j).wh ≠ what) : DelInv l (L.set i (gE l j)) what (i + 1) (j + 1) := by
  obtain ⟨h1, h2, h3, h4, h5⟩ := h
  refine ⟨by rw [List.length_set]; exact h1, by omega, by omega, ?_, ?_⟩
  · unfold keepW at *
    rw [← List.take_append_getElem hj, List.filter_append, ← h4, List.filter_cons_of_pos (by rw [gE_at hj] at hw; simpa using hw), List.filter_nil]
    have hi : i < (L.set i (gE l j)).length := by rw [List.length_set]; omega
    rw [← List.take_append_getElem hi, List.take_set_of_le (Nat.le_refl _), List.getElem_set_self, gE_at hj]
  · rw [List.drop_set_of_lt (by omega), ← List.drop_drop, ← List.drop_drop, h5]

theorem cellsOf_take (L : List Ent) (i : Nat) (hi : i ≤ L.length) : (cellsOf L).take (i * 3) = cellsOf (L.take i) := by
  have h1 := cellsOf_length (L.take i)
  rw [List.length_take, Nat.min_eq_left hi] at h1
  conv => lhs; rw [← List.take_append_drop i L, cellsOf_append]
  rw [← h1, List.take_left]
def DelPost (w : World) (g cap : Nat) (l : List Ent) (what : Int) (e : Ending) (w' : World) : Prop :=
  ∃ rest', e = .returned (.slice (some ⟨g, 0, none⟩) (keepW what l).length cap) ∧ PileAt w' g cap (keepW what l) rest' ∧ Chg w w' (fun k => k = g)
theorem keepW_none {what : Int} {l : List Ent} (h : ∀ x ∈ l, x.wh ≠ what) : keepW what l = l := by
  unfold keepW
  rw [List.filter_eq_self]
  intro x hx
  simpa using h x hx
set_option maxHeartbeats 1000000 in
theorem deleteFunc_any (g cap : Nat) (l : List Ent) (rest : List Value) (what : Int) (B : Nat) (hsm : l.length < 100000000000) (w : World) (hB : Blk w B 3 [.int .i64 what]) (h : PileAt w g cap l rest) (hBg : B ≠ g) :
    Calls Try.prog 80 #[.slice (some ⟨g, 0, none⟩) l.length cap, .func (.func 81) #[] #[.pointer (some ⟨B, 0, none⟩)]] w (DelPost w g cap l what) := by
  have H := Lib.hid h
  have HB := Lib.hid hB
  clear h hB
  go_enter Try.func80, Try.ntmps80
  go_wp2_with fail
  refine (indexFunc_any g cap l rest what B hsm w (HB.out.cell 0 _ rfl) H.out).mono ?_
  rintro e w1 ⟨hb, ⟨rfl, hn⟩ | ⟨k, rfl, hk, hkw, hkb⟩⟩
  · have HN := Lib.hid (And.intro hb hn)
    clear hb hn
    go_wp2
    go_ret
    refine ⟨rest, ?_, ?_, Chg.of_below HN.out.1⟩
    · rw [keepW_none HN.out.2]; rfl
    · rw [keepW_none HN.out.2]; exact H.out.below HN.out.1
  · have HN := Lib.hid (And.intro hb (And.intro hkw hkb))
    clear hb hkw hkb
    have hk1 : ((k : Int) == -1) = false := by rw [beq_eq_false_iff_ne]; omega
    go_wp2
    go_loopw [5, 6] (fun vi vj wr => ∃ (i j : Nat) (L : List Ent), vi = .int .i64 i ∧ vj = .int .i64 j ∧ i < j ∧ j ≤ l.length ∧ L.length ≤ l.length ∧ l.length ≤ L.length ∧ Hid (DelInv l L what i j ∧ PileAt wr g cap L rest ∧ Chg w wr (fun k => k = g))) (fun _ vj _ => l.length - (intOf vj).toNat)
    case atStart =>
      exact ⟨k, k + 1, l, rfl, by go_num, by omega, by omega, Nat.le_refl _, Nat.le_refl _, Lib.hid ⟨del_start hk HN.out.2.1 HN.out.2.2, H.out.below HN.out.1, Chg.of_below HN.out.1⟩⟩
    case round =>
      obtain ⟨i, j, L, rfl, rfl, hij, hjl, hL1, hL2, HI⟩ := hrel
      clear HN
      by_cases hlt : j < l.length
      · have HB1 := Lib.hid (HB.out.chg HI.out.2.2 hBg)
        obtain ⟨p0, p1, p2⟩ := HI.out.2.1.cells j (by omega)
        obtain ⟨q0, q1, q2⟩ := HI.out.2.1.cells i (by omega)
        have hf := HI.out.2.1.free
        have hgl := HI.out.2.1.blk.lt
        have hx : L[j] = gE l j := by rw [← gE_at (by omega)]; exact del_get HI.out.1 hlt
        generalize L[i]'(by omega) = y at *
        generalize L[j]'(by omega) = x at *
        have HX := Lib.hid hx
        clear hx
        have hil : (i : Int) < (l.length : Int) := by omega
        go_wp2_with fail
        refine (is_any x what B _ ((HB1.out.alloc _).cell 0 _ rfl)).mono ?_
        rintro e w1 ⟨rfl, rfl⟩
        by_cases hw : x.wh = what
        · have hwb : (x.wh == what) = true := beq_iff_eq.2 hw
          have HW := Lib.hid hw
          clear hw
          go_wp2
          go_roundw
          case rel =>
            exact ⟨i, j + 1, L, rfl, by go_num, by omega, by omega, hL1, hL2, Lib.hid ⟨del_skip HI.out.1 hlt (by rw [← HX.out]; exact HW.out), (HI.out.2.1.alloc _).alloc _, (HI.out.2.2.alloc _).alloc _⟩⟩
          case measure => simp [intOf]; omega
        · have hwb : (x.wh == what) = false := beq_eq_false_iff_ne.2 hw
          have HW := Lib.hid hw
          clear hw
          go_wp2
          go_roundw
          case rel =>
            refine ⟨i + 1, j + 1, L.set i x, by go_num, by go_num, by omega, by omega, by rw [List.length_set]; exact hL1, by rw [List.length_set]; exact hL2, Lib.hid ⟨?_, ?_, ?_⟩⟩
            · rw [HX.out]; exact del_keep HI.out.1 hlt (by rw [← HX.out]; exact HW.out)
            · exact ((HI.out.2.1.set i x (by omega)).alloc _).alloc _
            · exact (((((HI.out.2.2.setCell ⟨g, i * 3, none⟩ _ (fun _ => rfl)).setCell ⟨g, i * 3 + 1, none⟩ _ (fun _ => rfl)).setCell ⟨g, i * 3 + 2, none⟩ _ (fun _ => rfl)).alloc _).alloc _)
          case measure => simp [intOf]; omega
      · have hj : j = l.length := by omega
        subst hj
        have hkl : (keepW what l).length = i := by
          have h4 := HI.out.1.kept
          rw [List.take_of_length_le (Nat.le_refl _)] at h4
          rw [← h4, List.length_take]; omega
        have hblk := HI.out.2.1.blk
        have hcl := cellsOf_length L
        have hle := HI.out.2.1.le
        have hlen := HI.out.2.1.len
        have z49 := Try.zeroValue117
        have hclr : ∀ ty, (Builtin.clear_ #[103] ty #[.slice (some ⟨g, i * 3, none⟩) (l.length - i) (cap - i)]).run Try.prog wr = .ok (.tuple #[]) (wr.setRow g ((cellsOf L ++ rest).take (i * 3) ++ (Builtin.zeroCells #[.int .i64 0, .int .i64 0, .int .i64 0] (l.length - i)).toList ++ (cellsOf L ++ rest).drop (i * 3 + (l.length - i) * 3)).toArray) :=
          fun ty => run_clear_at wr 103 117 ty (.agg #[.int .i64 0, .int .i64 0, .int .i64 0]) Try.underlying103 z49 (by simp [Value.cells, Value.oneCell']) g (i * 3) (l.length - i) (cap - i) (by omega) 117 (cellsOf L ++ rest) hblk (by simp [Value.cells]; omega)
        clear z49
        go_wp2
        go_ret
        have hK : (cellsOf L ++ rest).take (i * 3) = cellsOf (keepW what l) := by
          have h4 := HI.out.1.kept
          rw [List.take_of_length_le (Nat.le_refl _)] at h4
          rw [← h4, List.take_append_of_le_length (by omega)]
          exact cellsOf_take L i (by omega)
        refine ⟨(Builtin.zeroCells #[.int .i64 0, .int .i64 0, .int .i64 0] (l.length - i)).toList ++ (cellsOf L ++ rest).drop (i * 3 + (l.length - i) * 3), by rw [hkl]; rfl, ⟨?_, by omega, H.out.max, ?_⟩, HI.out.2.2.trans (chg_setRow _ _ _) (fun _ _ h => h)⟩
        · rw [← hK]
          exact blk_setRow hblk _
        · rw [hkl, List.length_append, List.length_drop, List.length_append]
          have : (Builtin.zeroCells #[Value.int .i64 0, .int .i64 0, .int .i64 0] (l.length - i)).toList.length = (l.length - i) * 3 := by unfold Builtin.zeroCells; rw [Array.length_toList, Array.size_map, Array.size_range]; rfl
          rw [this]
          omega

/-! ### Cancel -/
theorem keep_perm {l m : List Ent} (h : l.Perm m) (what : Int) : (keepW what l).Perm (keepW what m) := h.filter _
theorem keep_le (what : Int) (l : List Ent) : (keepW what l).length ≤ l.length := List.length_filter_le _ _
def CancelPost (w : World) (base b : Nat) (v : Value) (m : List Ent) (ord what : Int) (e : Ending) (w' : World) : Prop :=
  ∃ v', e = .returned (.int .i64 ((m.length : Int) - (keepW what m).length)) ∧ AgS w' base b v' (keepW what m) ord ∧ v'.ownBlock = v.ownBlock ∧ Chg w w' (Foot b v)
theorem indexFunc_nil (A : Option Addr) (c : Nat) (f : Value) (w : World) :
    Calls Try.prog 91 #[.slice A 0 c, f] w fun e w' => e = .returned (.int .i64 (-1)) ∧ w = w' := by
  go_enter Try.func91, Try.ntmps91
  go_wp2
  go_loop [8] (fun v => v = .int .i64 0) (fun _ => 0)
  case atStart => exact rfl
  case round =>
    subst hrel
    go_wp2
    go_ret
    exact ⟨rfl, rfl⟩
/-- A pile without a row, or with an empty one. -/
theorem deleteFunc_nil (A : Option Addr) (c : Nat) (f : Value) (w : World) :
    Calls Try.prog 80 #[.slice A 0 c, f] w fun e w' => e = .returned (.slice A 0 c) ∧ w = w' := by
  go_enter Try.func80, Try.ntmps80
  go_wp2_with fail
  refine (indexFunc_nil A c f w).mono ?_
  rintro e w' ⟨rfl, rfl⟩
  go_wp2
  go_ret
  exact ⟨rfl, rfl⟩
def DelAgPost (w : World) (base : Nat) (v : Value) (l : List Ent) (what : Int) (e : Ending) (w' : World) : Prop :=
  ∃ v', e = .returned v' ∧ v'.ownBlock = v.ownBlock ∧ w'.ownsRow base 117 3 v' (keepW what l).length (cellsOf (keepW what l)) ∧ (∃ A c, v' = .slice A (keepW what l).length c) ∧ Chg w w' (fun k => some k = v.ownBlock)
theorem deleteFunc_ag (base b : Nat) (v o : Value) (l : List Ent) (what : Int) (B : Nat) (hsm : l.length < 100000000000) (w : World) (hB : Blk w B 3 [.int .i64 what]) (ha : Ag w base b v o l) (hBv : v.ownBlock ≠ some B) :
    Calls Try.prog 80 #[v, .func (.func 81) #[] #[.pointer (some ⟨B, 0, none⟩)]] w (DelAgPost w base v l what) := by
  cases l with
  | nil =>
    obtain ⟨A, c, rfl⟩ := ha.form
    exact (deleteFunc_nil A c _ w).mono fun e w' ⟨he, hw⟩ => by subst hw; exact ⟨_, he, rfl, ha.row, ⟨A, c, rfl⟩, Chg.refl _ _⟩
  | cons x l =>
    obtain ⟨g, cap, rest, rfl, hg, hp⟩ := ha.hp (by simp)
    refine (deleteFunc_any g cap (x :: l) rest what B hsm w hB hp.pile (fun e => hBv (by rw [e]; rfl))).mono fun e w' ⟨rest', he, hp', hc⟩ => ⟨_, he, rfl, pile_row hp' hg, ⟨_, _, rfl⟩, hc.mono (fun k _ hk => by rw [hk]; rfl)⟩

set_option maxHeartbeats 1000000 in
theorem cancel_any (base b : Nat) (v : Value) (m : List Ent) (ord what : Int) (hsm : m.length < 1000000000) (w : World) (h : AgS w base b v m ord) :
    Calls Try.prog 58 #[.pointer (some ⟨b, 0, none⟩), .int .i64 what] w (CancelPost w base b v m ord what) := by
  obtain ⟨A, c, hv⟩ := h.form
  obtain ⟨⟨l, ha, hh, hp⟩, hs, hpos⟩ := h
  have hll : l.length < 100000000000 := by have := hp.length_eq; omega
  have ha1 := ha.alloc (.cells #[.int .i64 what] 3)
  have hB := Blk.new w 3 [.int .i64 what]
  have hBv : v.ownBlock ≠ some w.heap.size := fun e => by have := (ha.row.lt _ e).2; omega
  have hbl := ha.blk.lt
  have H := Lib.hid (And.intro ha (And.intro hh (And.intro hp (And.intro hs (And.intro hpos (And.intro ha1 hB))))))
  have hc0 := ha.blk.cell 0 _ rfl
  have hc1 := ha1.blk.cell 0 _ rfl
  subst hv
  clear ha hh hp hs hpos ha1 hB
  go_enter Try.func58, Try.ntmps58
  go_wp2_with fail
  refine (deleteFunc_ag base b _ (.int .i64 ord) l what w.heap.size hll _ H.out.2.2.2.2.2.2 H.out.2.2.2.2.2.1 hBv).mono ?_
  rintro e w1 ⟨v1, rfl, hv1, hr1, ⟨A1, c1, rfl⟩, hch⟩
  obtain ⟨ha, hh, hp, hs, hpos, ha1, hB⟩ := H.out
  have hb1 : Blk w1 b 105 [.slice A m.length c, .int .i64 ord] := ha1.blk.chg hch (fun e => ha1.ne e.symm)
  have hc2 := hb1.cell 0 _ rfl
  have hf2 := hb1.free
  have H1 := Lib.hid (And.intro hv1 (And.intro hr1 (And.intro hch hb1)))
  clear hv1 hr1 hch hb1 ha hh hp hs hpos ha1 hB hc0 hc1
  go_wp2_with fail
  have ha2 : Ag (w1.setCell ⟨b, 0, none⟩ (.slice A1 (keepW what l).length c1)) base b (.slice A1 (keepW what l).length c1) (.int .i64 ord) (keepW what l) :=
    ⟨H1.out.2.2.2.set 0 _ (by simp), ownsRow_set H1.out.2.1 ⟨b, 0, none⟩ _ (by rw [H1.out.1]; exact H.out.1.ne), H.out.1.le, by rw [H1.out.1]; exact H.out.1.ne⟩
  have hk := keep_le what l
  refine (hinit_any base b _ (.int .i64 ord) (keepW what l) (by omega) _ ha2).mono ?_
  rintro e w2 ⟨l', rfl, ha3, hh3, hp3, hc3⟩
  have hc4 := ha3.blk.cell 0 _ rfl
  have hlm := (keep_perm H.out.2.2.1 what).length_eq
  have hmk := keep_le what m
  have H2 := Lib.hid (And.intro ha2 (And.intro ha3 (And.intro hh3 (And.intro hp3 (And.intro hc3 hlm)))))
  clear ha2 ha3 hh3 hp3 hc3 hc2 hf2
  rw [hlm] at hc4
  clear hlm
  go_wp2
  go_ret
  obtain ⟨ha2, ha3, hh3, hp3, hc3, hlm⟩ := H2.out
  refine ⟨_, rfl, ⟨⟨l', ha3, hh3, hp3.trans (keep_perm H.out.2.2.1 what)⟩, srt_filter _ H.out.2.2.2.1, H.out.2.2.2.2.1⟩, H1.out.1, ?_⟩
  have hA : Chg w (w.alloc (.cells [Value.int .i64 what].toArray 3)) (Foot b (.slice A m.length c)) := (Chg.refl w _).alloc _
  refine ((hA.trans H1.out.2.2.1 (fun i _ h => .inr h)).setCell ⟨b, 0, none⟩ _ (fun _ => .inl rfl)).trans hc3 ?_
  rintro i hi (rfl | hk)
  · exact .inl rfl
  · exact .inr (by rw [hk]; exact H1.out.1)
end Go.Proofs.Ytlkgeifmppadmaa
namespace Go.Proofs.Ytlkgeifmppadmaa
open Go.RowKit
set_option linter.unusedVariables false
set_option maxRecDepth 100000
set_option linter.unusedSimpArgs false

/-- The slice v shows the ints xs. -/
def Ints (w : World) (v : Value) (xs : List Int) : Prop :=
  (∃ A c, v = .slice A 0 c ∧ xs = []) ∨ ∃ g o c, v = .slice (some ⟨g, o, none⟩) xs.length c ∧ g < w.heap.size ∧ ∀ k (h : k < xs.length), w.cell? ⟨g, o + k, none⟩ = some (.int .i64 xs[k])
theorem Ints.below {A B : World} (h : Below A.heap.size A B) {v : Value} {xs : List Int} : Ints A v xs → Ints B v xs
  | .inl e => .inl e
  | .inr ⟨g, o, c, e, hg, hc⟩ => .inr ⟨g, o, c, e, Nat.lt_of_lt_of_le hg h.size, fun k hk => (h.cell (p := ⟨g, o + k, none⟩) hg).trans (hc k hk)⟩
theorem Ints.form {w : World} {v : Value} {xs : List Int} : Ints w v xs → ∃ A c, v = .slice A xs.length c
  | .inl ⟨A, c, e, h⟩ => ⟨A, c, by rw [e, h]; rfl⟩
  | .inr ⟨g, o, c, e, _⟩ => ⟨_, c, e⟩

theorem Ints.new (w : World) (t : TypeId) (xs : List Int) (c : Nat) : Ints (w.alloc (.cells (xs.map (Value.int .i64)).toArray t)) (.slice (some ⟨w.heap.size, 0, none⟩) xs.length c) xs :=
  .inr ⟨_, 0, c, rfl, by simp, fun k hk => (Blk.new w t (xs.map (Value.int .i64))).cell (0 + k) _ (by simp [List.getElem?_eq_getElem hk])⟩
/-- A row of ints of one's own shows them. -/
def Own1 (w : World) (base : Nat) (v : Value) (xs : List Int) : Prop := w.ownsRow base 3 1 v xs.length (xs.map (Value.int .i64))
theorem Own1.ints {w : World} {base : Nat} {v : Value} {xs : List Int} (h : Own1 w base v xs) : Ints w v xs := by
  rcases h.2 with ⟨rfl, h0⟩ | ⟨g, cap, cur, rfl, hb, hh, hle, hm, hs, ht⟩
  · exact .inl ⟨_, _, rfl, List.length_eq_zero_iff.1 h0⟩
  · refine .inr ⟨g, 0, cap, rfl, (Array.getElem?_eq_some_iff.1 hh).1, fun k hk => ?_⟩
    have h1 : (cur.toList.take (xs.length * 1))[k]? = (xs.map (Value.int .i64))[k]? := by rw [ht]
    rw [List.getElem?_take_of_lt (by omega), List.getElem?_map, List.getElem?_eq_getElem hk] at h1
    have h2 : cur[k]? = some (Value.int .i64 xs[k]) := by simpa using h1
    simp only [World.cell?, hh]
    simpa using h2
theorem Own1.ge {w : World} {base : Nat} {v : Value} {xs : List Int} (h : Own1 w base v xs) {j : Nat} (e : v.ownBlock = some j) : base ≤ j := by
  rcases h.2 with ⟨rfl, _⟩ | ⟨g, cap, cur, rfl, hb, _⟩
  · simp [Value.ownBlock] at e
  · have : g = j := by simpa [Value.ownBlock] using e
    omega
theorem info_int : (Try.prog.info? 3).map (fun i => (i.zero, i.size, i.bytes)) = some (some (.int .i64 0), 1, 8) := by kernel_rfl

def withinZ (n lo hi : Int) : Int := if lo ≤ n ∧ n ≤ hi then n else lo + (if n.tmod (hi - lo + 1) < 0 then n.tmod (hi - lo + 1) + hi - lo + 1 else n.tmod (hi - lo + 1))
theorem withinZ_ge (n lo hi : Int) (h : lo ≤ hi) : lo ≤ withinZ n lo hi ∧ withinZ n lo hi ≤ hi := by
  unfold withinZ
  have h1 : (n.tmod (hi - lo + 1)).natAbs < (hi - lo + 1).natAbs := by
    rw [Int.natAbs_tmod]
    exact Nat.mod_lt _ (by omega)
  split
  · assumption
  · split <;> omega
set_option maxHeartbeats 1000000 in
theorem within_any (n lo hi : Int) (h0 : -1000000000000 ≤ lo) (h1 : lo ≤ hi) (h2 : hi ≤ 1000000000000) (w : World) :
    Calls Try.prog 6 #[.int .i64 n, .int .i64 lo, .int .i64 hi] w fun e w' => e = .returned (.int .i64 (withinZ n lo hi)) ∧ w = w' := by
  have hm : (n.tmod (hi - lo + 1)).natAbs < (hi - lo + 1).natAbs := by
    rw [Int.natAbs_tmod]
    exact Nat.mod_lt _ (by omega)
  have e1 : wrap64 (hi - lo) = hi - lo := by unfold wrap64; omega
  have e2 : wrap64 (hi - lo + 1) = hi - lo + 1 := by unfold wrap64; omega
  have e3 : wrap64 (n.tmod (hi - lo + 1)) = n.tmod (hi - lo + 1) := by unfold wrap64; omega
  have e4 : ((hi - lo + 1 : Int) == 0) = false := by simp; omega
  go_enter Try.func6, Try.ntmps6
  unfold withinZ
  by_cases c1 : lo ≤ n
  · by_cases c2 : n ≤ hi
    · rw [if_pos ⟨c1, c2⟩]
      go_wp2
      go_ret
      exact ⟨rfl, rfl⟩
    · rw [if_neg (fun h => c2 h.2)]
      go_wp2
      all_goals go_ret
      all_goals exact ⟨rfl, rfl⟩
  · rw [if_neg (fun h => c1 h.1)]
    go_wp2
    all_goals go_ret
    all_goals exact ⟨rfl, rfl⟩
/-- The slice at A shows the ints xs: where there is one, A is a plain address. -/
def ArgInts (w : World) (A : Option Addr) (xs : List Int) : Prop := ∀ k (h : k < xs.length), ∃ g o, A = some ⟨g, o, none⟩ ∧ g < w.heap.size ∧ w.cell? ⟨g, o + k, none⟩ = some (.int .i64 xs[k])
end Go.Proofs.Ytlkgeifmppadmaa
namespace Go.Proofs.Ytlkgeifmppadmaa
open Go.RowKit
set_option linter.unusedVariables false
set_option linter.unusedSimpArgs false

/-- An owner whose blocks meet S. -/
def OwnerS (S : Nat → Prop) (w : World) (b : Nat) (seed : List UInt8) : Prop :=
  ∃ v vl us, Blk w b 84 [v, vl] ∧ S b ∧ Bys w v seed ∧ (0 < seed.length → ∀ g, v.ownBlock = some g → S g) ∧ Sho w vl 5 1 us ∧ (∀ g, vl.ownBlock = some g → S g) ∧ ∀ h, h ≤ 4 → ∃ u, us[h]? = some u ∧ RwsF S w u (levelS seed h)
theorem OwnerS.at' {S : Nat → Prop} {w : World} {b : Nat} {seed : List UInt8} (h : OwnerS S w b seed) : OwnerAt w b seed := by
  obtain ⟨v, vl, us, h1, -, h2, -, h3, -, h4⟩ := h
  exact ⟨v, vl, us, h1, h2, h3, fun k hk => by obtain ⟨u, e, hu⟩ := h4 k hk; exact ⟨u, e, hu.rws⟩⟩
theorem OwnerS.chg {S T : Nat → Prop} {w w1 : World} {b : Nat} {seed : List UInt8} (h : OwnerS S w b seed) (hc : Chg w w1 T) (hS : ∀ g, S g → ¬ T g) : OwnerS S w1 b seed := by
  obtain ⟨v, vl, us, h1, h2, h3, h4, h5, h6, h7⟩ := h
  exact ⟨v, vl, us, h1.chg hc (hS b h2), h2, Sho.chgF h3 h4 hc hS, h4, h5.chg hc (fun g hg => hS g (h6 g hg)), h6, fun k hk => by obtain ⟨u, e, hu⟩ := h7 k hk; exact ⟨u, e, hu.chg hc hS⟩⟩
theorem OwnerS.mono {S T : Nat → Prop} {w : World} {b : Nat} {seed : List UInt8} (h : OwnerS S w b seed) (hS : ∀ g, S g → T g) : OwnerS T w b seed := by
  obtain ⟨v, vl, us, h1, h2, h3, h4, h5, h6, h7⟩ := h
  exact ⟨v, vl, us, h1, hS b h2, h3, fun h0 g hg => hS g (h4 h0 g hg), h5, fun g hg => hS g (h6 g hg), fun k hk => by obtain ⟨u, e, hu⟩ := h7 k hk; exact ⟨u, e, hu.mono hS⟩⟩
set_option maxRecDepth 100000 in
set_option maxHeartbeats 4000000 in
theorem rnew_s (S : Nat → Prop) (v : Value) (seed : List UInt8) (hsm : seed.length ≤ 1000000000) (w : World) (hx : Bys w v seed) (hxS : 0 < seed.length → ∀ g, v.ownBlock = some g → S g) :
    Calls Try.prog 23 #[v] w fun e w' => e = .returned (.pointer (some ⟨w.heap.size, 0, none⟩)) ∧ OwnerS (fun g => S g ∨ (w.heap.size ≤ g ∧ g < w'.heap.size)) w' w.heap.size seed ∧ Below w.heap.size w w' := by
  obtain ⟨i0, hi0, hz0, hz1, hz2⟩ := info_parts info_bytes
  obtain ⟨j0, hj0, hjz0, hjz1, hjz2⟩ := info_parts info_rows
  obtain ⟨A, c, rfl⟩ := hx.form
  have HX := Lib.hid hx
  have HXS := Lib.hid hxS
  clear hx hxS
  go_enter Try.func23, Try.ntmps23
  go_wp2
  go_loopw [4, 5] (fun v4 v5 wr => ∃ i : Nat, v5 = .int .i64 i ∧ i ≤ 16 ∧ Hid (Below w.heap.size w wr ∧ Blk wr w.heap.size 84 [.slice A seed.length c, .slice none 0 0] ∧ OwnR wr (w.heap.size + 1) v4 (pubs seed i))) (fun _ v _ => 16 - (intOf v).toNat)
  case atStart => exact ⟨0, rfl, by decide, Lib.hid ⟨(Below.refl _ _).alloc (Nat.le_refl _) _, Blk.new w 84 [.slice A seed.length c, .slice none 0 0], OwnR.nil _ _⟩⟩
  case round =>
    obtain ⟨i, rfl, hi, HI⟩ := hrel
    have hszB : w.heap.size + 1 ≤ wr.heap.size := HI.out.2.1.lt
    by_cases hlt : i < 16
    · have HP := Lib.hid (fun (wz : World) (hz : Bys wz (.slice A seed.length c) seed) => rpublic_any (.slice A seed.length c) seed i (by omega) hsm wz hz)
      have HACC := Lib.hid (pubs_succ seed i)
      have hpl : (pubs seed i).length ≤ 100 := by rw [pubs_length]; omega
      generalize publicS seed (i : Int) = PB at *
      generalize pubs seed i = L at *
      obtain ⟨A4, c4, rfl⟩ := HI.out.2.2.rws.form
      go_wp2_with fail
      refine (HP.out wr (HX.out.below HI.out.1)).mono ?_
      rintro e w2 ⟨v2, rfl, h1, h2⟩
      obtain ⟨A2, c2, rfl⟩ := h1.form
      obtain ⟨us, hu1, hu2⟩ := HI.out.2.2.keep h2
      have H2 := Lib.hid (And.intro h1 (And.intro h2 (And.intro hu1 hu2)))
      have hsz2 := h2.size
      clear h1 h2 hu1 hu2
      go_wp2_with (at_builtin; (refine wpList_append_lies _ rfl (.tmp 15) (.tmp 19) 31 rfl (w.heap.size + 1) 30 i0 (.slice none 0 0) 1 24 Try.underlying31 hi0 hz0 hz1 hz2 rfl (by decide) _ L.length us rfl (World.ownsRow.alloc H2.out.2.2.1 _) ⟨w2.heap.size, 0, none⟩ 1 1 [.slice A2 PB.length c2] rfl rfl (World.news_of_block (blk_new _ _)) (by simp [Value.oneCell']) (by decide) (by unfold maxLen; omega) (by omega) (by simp; omega) (w2.heap.size + 1) (by simp) ?_); intro g3 c3 W3 hown3 hgrow3 hlie3 hlt3)
      have HR3 := Lib.hid (retr_push HI.out.2.2 hszB H2.out.2.1 H2.out.1 H2.out.2.2.2 (by have := H2.out.2.2.1.1; omega) hown3 hgrow3 hlie3)
      go_roundw
      case rel => exact ⟨i + 1, by go_num, by omega, Lib.hid ⟨HI.out.1.trans (HR3.out.2.mono (by omega)), HI.out.2.1.chg (chg_belowB HR3.out.2) (by omega), by rw [HACC.out]; exact HR3.out.1⟩⟩
      case measure => simp [intOf]; omega
    · obtain rfl : i = 16 := by omega
      rw [show ((16 : Nat) : Int) = 16 from rfl]
      have hL0 := (levelS_length seed).1
      have hfoot := HI.out.2.2.foot
      obtain ⟨A4, c4, rfl⟩ := HI.out.2.2.rws.form
      have HF := Lib.hid (And.intro HI.out.1 (And.intro HI.out.2.1 (show RwsF (fun g => w.heap.size + 1 ≤ g ∧ g < wr.heap.size) wr _ (levelS seed 0) from hfoot)))
      have HPL := Lib.hid (pubs_length seed 16)
      have q0 := HI.out.2.1.cell 0 _ rfl
      have q1 := HI.out.2.1.cell 1 _ rfl
      have hpe : pubs seed 16 = levelS seed 0 := rfl
      rw [hpe]
      clear hfoot HI hpe
      have HL0 := Lib.hid hL0
      clear hL0
      go_wp2_with (at_builtin; (refine wpList_append_lies _ rfl (.tmp 25) (.tmp 27) 82 rfl (w.heap.size + 1) 31 j0 (.slice none 0 0) 1 24 Try.underlying82 hj0 hjz0 hjz1 hjz2 rfl (by decide) _ 0 [] rfl (World.ownsRow_nil _ _ _ _) ⟨wr.heap.size, 0, none⟩ 1 1 [.slice A4 (levelS seed 0).length c4] rfl rfl (World.news_of_block (blk_new _ _)) (by simp [Value.oneCell']) (by decide) (by decide) (by decide) (by simp; omega) (wr.heap.size + 1) (by simp) ?_); intro g3 c3 W3 hown3 hgrow3 hlie3 hlt3; have HK3 := Lib.hid (Blk.grown (Blk.alloc HF.out.2.1 _) hgrow3 (by intro e; cases e)); have r1 := HK3.out.cell 1 _ rfl; have f1 := HK3.out.free 1)
      have hg3 : w.heap.size + 1 ≤ g3 := by rcases hlie3 with h | h; · cases h
                                            · omega
      have hc3 : Chg wr W3 (fun _ => False) := ((Chg.refl wr _).alloc _).trans (Chg.of_grown hgrow3) (fun i _ h => by cases h)
      have hOL : OwnL W3 (w.heap.size + 1) (.slice (some ⟨g3, 0, none⟩) 1 c3) [levelS seed 0] := by
        have := OwnL.push (w := wr) (base := w.heap.size + 1) (v := .slice none 0 0) (Ls := []) (us := []) (fun i h => absurd h (Nat.not_lt_zero _)) rfl (HF.out.2.2.mono (fun g hg => ⟨hg.1, hg.2, by intro e; cases e⟩)) hown3 hgrow3 hlie3
        simpa using this
      have hset : Chg W3 (W3.setCell ⟨w.heap.size, 1, none⟩ (.slice (some ⟨g3, 0, none⟩) 1 c3)) (fun k => k = w.heap.size) := (Chg.refl W3 _).setCell _ _ (fun _ => rfl)
      have HS := Lib.hid (show Below w.heap.size w (W3.setCell ⟨w.heap.size, 1, none⟩ (.slice (some ⟨g3, 0, none⟩) 1 c3)) ∧ (∃ vl, Blk (W3.setCell ⟨w.heap.size, 1, none⟩ (.slice (some ⟨g3, 0, none⟩) 1 c3)) w.heap.size 84 [.slice A seed.length c, vl] ∧ OwnL (W3.setCell ⟨w.heap.size, 1, none⟩ (.slice (some ⟨g3, 0, none⟩) 1 c3)) (w.heap.size + 1) vl ((List.range (0 + 1)).map (levelS seed))) ∧ RwsF (fun g => w.heap.size + 1 ≤ g ∧ g < (W3.setCell ⟨w.heap.size, 1, none⟩ (.slice (some ⟨g3, 0, none⟩) 1 c3)).heap.size) (W3.setCell ⟨w.heap.size, 1, none⟩ (.slice (some ⟨g3, 0, none⟩) 1 c3)) (.slice A4 (levelS seed 0).length c4) (levelS seed 0) from
        ⟨(HF.out.1.trans (hc3.below (by have := HF.out.1.size; omega) (fun k h => h.elim))).trans (hset.below (by have := HF.out.1.size; have := hc3.size; omega) (fun k hk => by omega)), ⟨_, HK3.out.set 1 _ (by simp), hOL.chg hset (fun g h1 h2 e => by omega)⟩, ((HF.out.2.2.chg hc3 (fun g hg h => h)).chg hset (fun g hg e => by omega)).mono (fun g hg => ⟨hg.1, by have := hc3.size; have := hset.size; omega⟩)⟩)
      clear hset hOL hc3 HK3 hown3 hgrow3 hlie3 hlt3 r1 f1 q0 q1 HF hg3
      generalize W3.setCell ⟨w.heap.size, 1, none⟩ (.slice (some ⟨g3, 0, none⟩) 1 c3) = W4 at *
      go_loopw [4] (fun v4 wr => ∃ h : Nat, h ≤ 4 ∧ Hid (Below w.heap.size w wr ∧ (∃ vl, Blk wr w.heap.size 84 [.slice A seed.length c, vl] ∧ OwnL wr (w.heap.size + 1) vl ((List.range (h + 1)).map (levelS seed))) ∧ RwsF (fun g => w.heap.size + 1 ≤ g ∧ g < wr.heap.size) wr v4 (levelS seed h))) (fun v _ => lenV v)
      case atStart => exact ⟨0, by decide, HS⟩
      case round =>
        clear HS hi hlt HPL HL0
        obtain ⟨h, hh, HI⟩ := hrel
        obtain ⟨A4, c4, rfl⟩ := HI.out.2.2.rws.form
        by_cases hlt : h < 4
        · obtain ⟨K, hK, hK1, hK8⟩ := levelS_two seed h hlt
          have HLV : Hid (levelS seed (h + 1) = abN (levelS seed h) K) := Lib.hid (by show abN (levelS seed h) ((levelS seed h).length / 2) = _; rw [hK]; congr 1; omega)
          have HL32 := Lib.hid (levelS_32 seed h)
          have HKK := Lib.hid hK
          have hLl : (levelS seed h).length ≤ 16 ∧ 2 ≤ (levelS seed h).length := by omega
          obtain ⟨hLl1, hLl2⟩ := hLl
          clear hK
          generalize hLe : levelS seed h = L at *
          have HLE := Lib.hid hLe
          clear hLe
          obtain ⟨wo, rfl⟩ : ∃ wo : World, wo = wr := ⟨_, rfl⟩
          have hdl : decide ((1 : Int) < (L.length : Int)) = true := by simp; omega
          go_wp2
          go_loopw [6, 7] (fun v6 v7 wr => ∃ (n : Nat), v7 = .int .i64 (2 * (n : Int)) ∧ n ≤ K ∧ Hid (Below wo.heap.size wo wr ∧ OwnR wr wo.heap.size v6 (abN L n))) (fun _ v _ => 40 - (intOf v).toNat)
          case atStart => exact ⟨0, rfl, Nat.zero_le _, Lib.hid ⟨Below.refl _ _, OwnR.nil _ _⟩⟩
          case round =>
            obtain ⟨n, rfl, hn, HJ⟩ := hrel
            by_cases hltn : n < K
            · have h2n : 2 * n + 1 < L.length := by have := HKK.out; omega
              obtain ⟨gl, ol, u1, rfl, hgl, -, -, hc1, hb1⟩ := HI.out.2.2.rws.at' (2 * n) (by omega)
              obtain ⟨gl', ol', u2, eA, -, -, -, hc2, hb2⟩ := HI.out.2.2.rws.at' (2 * n + 1) h2n
              injection eA with eA
              injection eA with eA1 eA2
              subst eA1 eA2
              obtain ⟨A1, c1, rfl⟩ := hb1.form
              obtain ⟨A2, c2, rfl⟩ := hb2.form
              have p1 := (HJ.out.1.cell (p := ⟨gl, ol + 2 * n, none⟩) hgl).trans hc1
              have p2 := (HJ.out.1.cell (p := ⟨gl, ol + (2 * n + 1), none⟩) hgl).trans hc2
              have hP := HL32.out (2 * n) (by omega)
              have hQ := HL32.out (2 * n + 1) h2n
              have HACC : Hid (abN L (n + 1) = abN L n ++ [tagH 14 [L[2 * n], L[2 * n + 1]]]) := Lib.hid (by
                show abN L n ++ [tagH 14 [L.getD (2 * n) [], L.getD (2 * n + 1) []]] = _
                rw [List.getD_eq_getElem?_getD, List.getD_eq_getElem?_getD, List.getElem?_eq_getElem h2n, List.getElem?_eq_getElem (show 2 * n < L.length by omega)]; rfl)
              have HBB := Lib.hid (And.intro (hb1.below HJ.out.1) (hb2.below HJ.out.1))
              clear hc1 hc2 hb1 hb2
              generalize L[2 * n] = P at *
              generalize L[2 * n + 1] = Q at *
              have HPQ := Lib.hid (And.intro hP hQ)
              clear hP hQ
              have hal : (abN L n).length ≤ 100 := by rw [abN_length]; omega
              obtain ⟨A6, c6, rfl⟩ := HJ.out.2.rws.form
              generalize abN L n = R at *
              generalize hT : tagH 14 [P, Q] = TG at *
              have HT := Lib.hid hT
              clear hT
              have hsz := HJ.out.1.size
              have hglw : gl < wr.heap.size := Nat.lt_of_lt_of_le hgl hsz
              have y1 : (2 : Int) * (n : Int) + 1 < (L.length : Int) := by omega
              have y0 : (2 : Int) * (n : Int) < (L.length : Int) := by omega
              have y2 : (0 : Int) ≤ 2 * (n : Int) := by omega
              have y3 : (0 : Int) ≤ 2 * (n : Int) + 1 := by omega
              have ew : IntKind.i64.wrap (2 * (n : Int) + 1) = 2 * (n : Int) + 1 := IntWalk.i64_in _ (by omega)
              have et : (2 * (n : Int) + 1).toNat = 2 * n + 1 := by omega
              have et0 : (2 * (n : Int)).toNat = 2 * n := by omega
              go_wp2
              go_region_held3 (fun w' => w'.cell? ⟨gl, ol + 2 * n, none⟩ = some (.slice A1 P.length c1) ∧ w'.cell? ⟨gl, ol + (2 * n + 1), none⟩ = some (.slice A2 Q.length c2))
                (first
                  | go_keep
                  | exact ⟨s1, s2⟩
                  | exact ⟨t1, t2⟩)
                (first
                  | (go_simp; go_at_call 30; refine (rtag_any 14 14 rfl _ [P, Q] (by have := HPQ.out; simp; omega) (by simp) _ (new2 (w := wr.drew) 30 (b := wr.heap.size) rfl HBB.out.1 HBB.out.2)).mono ?_; rintro e w5 ⟨v5, rfl, h5, h6⟩; rw [HT.out] at h5; obtain ⟨A5, c5, rfl⟩ := h5.form; have hbw : Below wr.heap.size wr w5 := ((Below.refl wr.heap.size wr).drew.alloc (Nat.le_refl _) (.cells #[.slice A1 P.length c1, .slice A2 Q.length c2] 30)).trans (h6.mono (by simp)); obtain ⟨us, hu1, hu2⟩ := HJ.out.2.keep hbw; have H5 := Lib.hid (And.intro (own_mono' h5 (show wr.heap.size ≤ _ by simp)) (And.intro hbw (And.intro hu1 hu2))); have hsz5 := hbw.size; have s1 := (hbw.cell (p := ⟨gl, ol + 2 * n, none⟩) hglw).trans p1; have s2 := (hbw.cell (p := ⟨gl, ol + (2 * n + 1), none⟩) hglw).trans p2; clear h5 h6 hbw hu1 hu2)
                  | (refine step_append_lies _ (by rfl) (.tmp 40) (.tmp 52) 31 (by rfl) wo.heap.size 30 i0 (.slice none 0 0) 1 24 Try.underlying31 hi0 hz0 hz1 hz2 rfl (by omega) _ R.length us (by rfl) (World.ownsRow.alloc H5.out.2.2.1 _) ⟨w5.heap.size, 0, none⟩ 1 1 [.slice A5 TG.length c5] (by rfl) (by rfl) (World.news_of_block (blk_new _ _)) (by simp [Value.oneCell']) (by omega) (by unfold maxLen; omega) (by omega) (by simp; omega) (w5.heap.size + 1) (by simp) ?_; intro g7 c7 W7 hown7 hgrow7 hlie7 hlt7; have HR7 := Lib.hid (retr_push HJ.out.2 hsz H5.out.2.1 H5.out.1 H5.out.2.2.2 (by have := H5.out.2.2.1.1; omega) hown7 hgrow7 hlie7); have t1 : W7.cell? ⟨gl, ol + 2 * n, none⟩ = some (.slice A1 P.length c1) := (HR7.out.2.cell (p := ⟨gl, ol + 2 * n, none⟩) hgl).trans p1; have t2 : W7.cell? ⟨gl, ol + (2 * n + 1), none⟩ = some (.slice A2 Q.length c2) := (HR7.out.2.cell (p := ⟨gl, ol + (2 * n + 1), none⟩) hgl).trans p2; clear hown7 hgrow7 hlie7 hlt7))
              go_wp2
              go_roundw
              case rel => exact ⟨n + 1, by go_num, by omega, Lib.hid ⟨HJ.out.1.trans HR7.out.2, by rw [HACC.out]; exact HR7.out.1⟩⟩
              case measure => simp [intOf]; omega
            · obtain rfl : n = K := by omega
              have y9 : (L.length : Int) ≤ 2 * (n : Int) := by have := HKK.out; omega
              obtain ⟨vl, hbo, hol⟩ := HI.out.2.1
              have hc7 : Chg wo wr (fun _ => False) := Chg.of_below HJ.out.1
              obtain ⟨A6, c6, rfl⟩ := HJ.out.2.rws.form
              have HVB : Hid (∀ k, vl.ownBlock = some k → k < wo.heap.size) := Lib.hid (fun k e => by obtain ⟨us0, k1, _⟩ := hol; exact (World.ownsRow.lt k1 k e).2)
              obtain ⟨us, hu1, hu2⟩ := hol.chg hc7 (fun _ _ _ h => h)
              have hb7 := hbo.chg hc7 (fun h => h)
              have q0 := hb7.cell 0 _ rfl
              have q1 := hb7.cell 1 _ rfl
              have hsw := HJ.out.1.size
              have hbw := HI.out.1.size
              have hlr : ((List.range (h + 1)).map (levelS seed)).length ≤ 5 := by simp; omega
              have HBO := Lib.hid (And.intro hb7 (And.intro hu1 hu2))
              have HUP := Lib.hid (HJ.out.2.foot)
              have HBW := Lib.hid (HI.out.1.trans (HJ.out.1.mono hbw))
              have hwb : w.heap.size + 1 ≤ wo.heap.size := hbo.lt
              clear hb7 hu1 hu2 hol hbo hc7
              rw [← HLV.out] at HUP
              have hlv : (levelS seed (h + 1)).length = (abN L n).length := by rw [HLV.out]
              rw [← hlv]
              have HLVV := Lib.hid hlv
              clear hlv
              generalize hLS : (List.range (h + 1)).map (levelS seed) = LS at *
              have HLS := Lib.hid hLS
              clear hLS
              have hvf : vl.ownBlock = none ∨ vl.ownBlock ≠ none := by by_cases e : vl.ownBlock = none <;> simp [e]
              obtain ⟨A1, c1, rfl⟩ := (Sho.own HBO.out.2.1).form
              go_wp2_with (at_builtin; (refine wpList_append_lies _ rfl (.tmp 59) (.tmp 61) 82 rfl (w.heap.size + 1) 31 j0 (.slice none 0 0) 1 24 Try.underlying82 hj0 hjz0 hjz1 hjz2 rfl (by decide) _ LS.length us rfl (World.ownsRow.alloc HBO.out.2.1 _) ⟨wr.heap.size, 0, none⟩ 1 1 [.slice A6 (levelS seed (h + 1)).length c6] rfl rfl (World.news_of_block (blk_new _ _)) (by simp [Value.oneCell']) (by decide) (by unfold maxLen; omega) (by omega) (by simp; omega) (wr.heap.size + 1) (by simp) ?_); intro g8 c8 W8 hown8 hgrow8 hlie8 hlt8; have HK8 := Lib.hid (Blk.grown (Blk.alloc HBO.out.1 _) hgrow8 (fun e => by have := (World.ownsRow.lt HBO.out.2.1 w.heap.size e.symm).1; omega)); have r1 := HK8.out.cell 1 _ rfl; have f1 := HK8.out.free 1)
              have hg8 : w.heap.size + 1 ≤ g8 := by
                rcases hlie8 with e | e
                · exact (World.ownsRow.lt HBO.out.2.1 g8 e).1
                · omega
              have hc8 : Chg wr W8 (fun k => (Value.slice A1 LS.length c1).ownBlock = some k) := ((Chg.refl wr _).alloc _).trans (Chg.of_grown hgrow8) (fun i _ h => h.symm)
              have hOL8 : OwnL W8 (w.heap.size + 1) (.slice (some ⟨g8, 0, none⟩) (LS.length + 1) c8) (LS ++ [levelS seed (h + 1)]) :=
                OwnL.push (w := wr) HBO.out.2.2 (by have := HBO.out.2.1.1; omega) (HUP.out.mono (fun g hg => ⟨by omega, hg.2, fun e => by have := HVB.out g e; omega⟩)) hown8 hgrow8 hlie8
              have hset : Chg W8 (W8.setCell ⟨w.heap.size, 1, none⟩ (.slice (some ⟨g8, 0, none⟩) (LS.length + 1) c8)) (fun k => k = w.heap.size) := (Chg.refl W8 _).setCell _ _ (fun _ => rfl)
              have hF8 : RwsF (fun g => w.heap.size + 1 ≤ g ∧ g < (W8.setCell ⟨w.heap.size, 1, none⟩ (.slice (some ⟨g8, 0, none⟩) (LS.length + 1) c8)).heap.size) (W8.setCell ⟨w.heap.size, 1, none⟩ (.slice (some ⟨g8, 0, none⟩) (LS.length + 1) c8)) (.slice A6 (levelS seed (h + 1)).length c6) (levelS seed (h + 1)) :=
                ((HUP.out.chg hc8 (fun g hg e => by have := HVB.out g e; omega)).chg hset (fun g hg e => by omega)).mono (fun g hg => ⟨by omega, by have := hc8.size; have := hset.size; omega⟩)
              go_roundw
              case rel => exact ⟨h + 1, by omega, Lib.hid ⟨(HBW.out.trans (hc8.below (by omega) (fun k hk => by have := (World.ownsRow.lt HBO.out.2.1 k hk).1; omega))).trans (hset.below (by have := hc8.size; omega) (fun k hk => by omega)), ⟨_, HK8.out.set 1 _ (by simp), by
                have e : (List.range (h + 1 + 1)).map (levelS seed) = LS ++ [levelS seed (h + 1)] := by rw [List.range_succ, List.map_append, HLS.out]; rfl
                rw [e]
                exact hOL8.chg hset (fun g k1 k2 k3 => by omega)⟩, hF8⟩⟩
              case measure => simp only [lenV]; have h1 := HLVV.out; rw [abN_length] at h1; have h2 := HKK.out; omega
        · obtain rfl : h = 4 := by omega
          have hl1 := (levelS_length seed).2.2.2.2
          have hd1 : ¬ (1 : Int) < ((levelS seed 4).length : Int) := by omega
          have HL1 := Lib.hid hl1
          clear hl1
          have HOW : Hid (OwnerS (fun g => S g ∨ (w.heap.size ≤ g ∧ g < wr.heap.size)) wr w.heap.size seed) := Lib.hid (by
            obtain ⟨vl, k1, us, k2, k3⟩ := HI.out.2.1
            refine ⟨_, vl, us, k1, .inr ⟨Nat.le_refl _, k1.lt⟩, HX.out.below HI.out.1, fun h0 g hg => .inl (HXS.out h0 g hg), Sho.own k2, fun g hg => .inr ⟨by have := (World.ownsRow.lt k2 g hg).1; omega, (World.ownsRow.lt k2 g hg).2⟩, fun q hq => ?_⟩
            obtain ⟨u, e, hu⟩ := k3 q (by simp; omega)
            exact ⟨u, e, by have := hu.mono (T := fun g => S g ∨ (w.heap.size ≤ g ∧ g < wr.heap.size)) (fun g hg => .inr ⟨by have := hg.1; omega, hg.2.1⟩); simpa using this⟩)
          go_wp2
          go_ret
          exact ⟨rfl, HOW.out, HI.out.1⟩
end Go.Proofs.Ytlkgeifmppadmaa
namespace Go.Proofs.Ytlkgeifmppadmaa
open Go.RowKit
set_option linter.unusedVariables false

/-- The new row lies where the old one did, or in a new block. -/
def LieOf (w : World) (v v' : Value) : Prop := v'.ownBlock = v.ownBlock ∨ ∃ q, v'.ownBlock = some q ∧ w.heap.size ≤ q
section
variable {P : Program} {w : World}
theorem run_append_lie (base : Nat) (t ty e : TypeId) (i : TypeInfo) (z : Value) (size bytes : Nat) (ht : P.underlying t = some (.slice e)) (hi : P.info? e = some i) (hz : i.zero = some z)
    (hsize : i.size = size) (hby : i.bytes = bytes) (hzs : z.cells.size = size) (hsz : 0 < size)
    (v : Value) (n : Nat) (xs : List Value) (hown : w.ownsRow base e size v n xs)
    (x : Value) (m : Nat) (news : List Value) (hx : NewsOf w x m size news)
    (h63 : n + m ≤ maxLen) (hbytes : (n + m) * bytes ≤ 140737488355328) (hbase : base ≤ w.heap.size) :
    ∃ v' w', (Builtin.append_ #[t, t] ty #[v, x]).run P w = .ok v' w' ∧ w'.ownsRow base e size v' (n + m) (xs ++ news) ∧ w.grownBy w' v.ownBlock ∧ LieOf w v v' := by
  obtain ⟨hl, h1, A, c, rfl, hA⟩ := hx
  rcases hA with rfl | ⟨ad, rfl, hn⟩
  · have hnil : news = [] := List.eq_nil_of_length_eq_zero (by simpa using hl)
    subst hnil
    exact ⟨v, w, run_append_none t ty e i size base ht hi v n xs hown A c, by simpa using hown, ⟨rfl, rfl, rfl, Nat.le_refl _, fun _ _ _ => rfl⟩, .inl rfl⟩
  · obtain ⟨v', w', hr, h2, h3, _, h5⟩ := run_append_own_at (P := P) w base t ty e i z size bytes ht hi hz hsize hby hzs hsz v n xs hown ad m c news hl hn h1 h63 hbytes hbase
    refine ⟨v', w', hr, h2, h3, ?_⟩
    rcases h5 with h5 | h5
    · exact .inl h5
    · exact .inr ⟨_, h5, Nat.le_refl _⟩
theorem wpList_append_lie {ops : Array Oper} {rest : List Oper} {o : Oper} {a : Act} {Q : Exit → Act → World → Prop} (hgd : o.guard = none) (s x : Operand) (t : TypeId)
    (ho : o.op = .call { callee := .builtin .append, args := #[s, x], argTypes := #[t, t] })
    (base : Nat) (e : TypeId) (i : TypeInfo) (z : Value) (size bytes : Nat) (ht : P.underlying t = some (.slice e)) (hi : P.info? e = some i) (hz : i.zero = some z)
    (hsize : i.size = size) (hby : i.bytes = bytes) (hzs : z.cells.size = size) (hsz : 0 < size)
    (v : Value) (n : Nat) (xs : List Value) (hs : a.eval s = v) (hown : w.ownsRow base e size v n xs)
    (y : Value) (m : Nat) (news : List Value) (hy : a.eval x = y) (hx : NewsOf w y m size news)
    (h63 : n + m ≤ maxLen) (hbytes : (n + m) * bytes ≤ 140737488355328) (hbase : base ≤ w.heap.size)
    (h : ∀ v' w', w'.ownsRow base e size v' (n + m) (xs ++ news) → w.grownBy w' v.ownBlock → LieOf w v v' → wpList P ops Q rest (a.put o.dst v') w') : wpList P ops Q (o :: rest) a w :=
  wpList_plain hgd fun _ hK => by
    obtain ⟨v', w', hr, h2, h3, h4⟩ := run_append_lie (P := P) base t o.type e i z size bytes ht hi hz hsize hby hzs hsz v n xs hown y m news hx h63 hbytes hbase
    unfold Oper.wp execOp
    simp only [ho, resolve, invoke, builtin, Sem.run_bind, Sem.run_pure, Result.andThen_ok, List.map_toArray, List.map_cons, List.map_nil, hs, hy, hr]
    exact hK _ _ (h v' w' h2 h3 h4)
/-- The same, as a step of a region that draws. -/
theorem step_append_lie {ops : Array Oper} {o : Oper} {a : Act} {K : Act → World → Prop} {Q : Exit → Act → World → Prop} {E : Prop} (hgd : o.guard = none) (s x : Operand) (t : TypeId)
    (ho : o.op = .call { callee := .builtin .append, args := #[s, x], argTypes := #[t, t] })
    (base : Nat) (e : TypeId) (i : TypeInfo) (z : Value) (size bytes : Nat) (ht : P.underlying t = some (.slice e)) (hi : P.info? e = some i) (hz : i.zero = some z)
    (hsize : i.size = size) (hby : i.bytes = bytes) (hzs : z.cells.size = size) (hsz : 0 < size)
    (v : Value) (n : Nat) (xs : List Value) (hs : a.eval s = v) (hown : w.ownsRow base e size v n xs)
    (y : Value) (m : Nat) (news : List Value) (hy : a.eval x = y) (hx : NewsOf w y m size news)
    (h63 : n + m ≤ maxLen) (hbytes : (n + m) * bytes ≤ 140737488355328) (hbase : base ≤ w.heap.size)
    (h : ∀ v' w', w'.ownsRow base e size v' (n + m) (xs ++ news) → w.grownBy w' v.ownBlock → LieOf w v v' → K (a.put o.dst v') w') :
    if Region.wanted o (yielded ops a.tmps) = true then Oper.wp P o a w K Q else E := by
  have hw : Region.wanted o (yielded ops a.tmps) = true := by simp [Region.wanted, hgd]
  rw [if_pos hw]
  obtain ⟨v', w', hr, h2, h3, h4⟩ := run_append_lie (P := P) base t o.type e i z size bytes ht hi hz hsize hby hzs hsz v n xs hown y m news hx h63 hbytes hbase
  unfold Oper.wp execOp
  simp only [ho, resolve, invoke, builtin, Sem.run_bind, Sem.run_pure, Result.andThen_ok, List.map_toArray, List.map_cons, List.map_nil, hs, hy, hr]
  exact h v' w' h2 h3 h4
end
theorem LieOf.ne {w : World} {v v' : Value} {b : Nat} (h : LieOf w v v') (hne : v.ownBlock ≠ some b) (hb : b < w.heap.size) : v'.ownBlock ≠ some b := by
  rcases h with e | ⟨q, e, hq⟩
  · rw [e]; exact hne
  · rw [e]
    intro e2
    injection e2 with e2
    omega
end Go.Proofs.Ytlkgeifmppadmaa
namespace Go.Proofs.Ytlkgeifmppadmaa
open Go.RowKit
set_option linter.unusedVariables false
set_option linter.unusedSimpArgs false

def seedS (n : Int) : List UInt8 := tagH 99 [[ub (n % 5)]]
def hashS (n : Int) : List UInt8 := tagH 98 [[ub n]]
theorem seedS_length (n : Int) : (seedS n).length = 32 := tagH_length _ _
theorem hashS_length (n : Int) : (hashS n).length = 32 := tagH_length _ _
theorem withinZ_in (n lo hi : Int) (h0 : lo ≤ n) (h1 : n ≤ hi) : withinZ n lo hi = n := by unfold withinZ; rw [if_pos ⟨h0, h1⟩]
theorem one_text (w : World) (b : UInt8) (y : Int) (hy : y = ((b.toNat : Nat) : Int)) : Rws ((w.alloc (.cells #[.int .u8 y] 5)).alloc (.cells #[.slice (some ⟨w.heap.size, 0, none⟩) 1 1] 30)) (.slice (some ⟨w.heap.size + 1, 0, none⟩) 1 1) [[b]] := by
  subst hy
  have h : Bys (w.alloc (.cells #[.int .u8 ((b.toNat : Nat) : Int)] 5)) (.slice (some ⟨w.heap.size, 0, none⟩) 1 1) [b] := Sho.new w 5 (bys [b]) 1 1 1 rfl (Nat.le_refl _) (by decide)
  exact new1 30 (b := w.heap.size + 1) (by simp) h
set_option maxRecDepth 100000 in
theorem seed_any (n : Int) (h0 : 0 ≤ n) (h1 : n ≤ 1000) (w : World) : Calls Try.prog 24 #[.int .i64 n] w (RetB w (seedS n)) := by
  have HW := Lib.hid (within_any n 0 1000 (by decide) (by decide) (by decide) w)
  rw [withinZ_in n 0 1000 h0 h1] at HW
  have HB5 : Hid (n % 5 = (((ub (n % 5)).toNat : Nat) : Int)) := Lib.hid (by rw [ub_val]; omega)
  have HS : Hid (seedS n = tagH 99 [[ub (n % 5)]]) := Lib.hid rfl
  generalize seedS n = S at *
  generalize ub (n % 5) = b at *
  go_enter Try.func24, Try.ntmps24
  go_wp2_with fail
  refine HW.out.mono ?_
  rintro e w' ⟨rfl, rfl⟩
  have hb := ((Below.refl w.heap.size w).alloc (Nat.le_refl _) (.cells #[.int .u8 (n % 5)] 5)).alloc (by simp) (.cells #[.slice (some ⟨w.heap.size, 0, none⟩) 1 1] 30)
  have HT := Lib.hid (And.intro (rtag_any 99 99 rfl _ [[b]] (by simp) (by simp) _ (one_text w b (n % 5) HB5.out)) hb)
  clear hb
  go_wp2_with fail
  refine HT.out.1.mono ?_
  rintro e w2 ⟨v2, rfl, h1, h2⟩
  have H2 := Lib.hid (And.intro h1 h2)
  clear h1 h2
  go_wp2
  go_ret
  exact ⟨_, rfl, by rw [HS.out]; exact own_mono' H2.out.1 (by simp; omega), HT.out.2.trans (H2.out.2.mono (by simp; omega))⟩
set_option maxRecDepth 100000 in
theorem hash_any (n : Int) (h0 : 0 ≤ n) (h1 : n ≤ 100000) (w : World) : Calls Try.prog 11 #[.int .i64 n] w (RetB w (hashS n)) := by
  have HW := Lib.hid (within_any n 0 100000 (by decide) (by decide) (by decide) w)
  rw [withinZ_in n 0 100000 h0 h1] at HW
  have e1 : n % 256 = (((ub n).toNat : Nat) : Int) := (ub_val _).symm
  have HS : Hid (hashS n = tagH 98 [[ub n]]) := Lib.hid rfl
  generalize hashS n = S at *
  generalize ub n = b at *
  go_enter Try.func11, Try.ntmps11
  go_wp2_with fail
  refine HW.out.mono ?_
  rintro e w' ⟨rfl, rfl⟩
  have hb := ((Below.refl w.heap.size w).alloc (Nat.le_refl _) (.cells #[.int .u8 ((b.toNat : Nat) : Int)] 5)).alloc (by simp) (.cells #[.slice (some ⟨w.heap.size, 0, none⟩) 1 1] 30)
  have HT := Lib.hid (And.intro (rtag_any 98 98 rfl _ [[b]] (by simp) (by simp) _ (one_text w b ((b.toNat : Nat) : Int) rfl)) hb)
  clear hb
  go_wp2_with fail
  refine HT.out.1.mono ?_
  rintro e w2 ⟨v2, rfl, h1, h2⟩
  have H2 := Lib.hid (And.intro h1 h2)
  clear h1 h2
  go_wp2
  go_ret
  exact ⟨_, rfl, by rw [HS.out]; exact own_mono' H2.out.1 (by simp; omega), HT.out.2.trans (H2.out.2.mono (by simp; omega))⟩
/-- The first n owners, as a row of pointers, all in blocks of S. -/
def OwnersS (S : Nat → Prop) (w : World) (v : Value) (n : Nat) : Prop := ∃ us, Sho w v n 1 us ∧ (0 < n → ∀ g, v.ownBlock = some g → S g) ∧ ∀ i, i < n → ∃ b, us[i]? = some (.pointer (some ⟨b, 0, none⟩)) ∧ OwnerS S w b (seedS (i : Int))
theorem OwnersS.chg {S T : Nat → Prop} {w w1 : World} {v : Value} {n : Nat} (h : OwnersS S w v n) (hc : Chg w w1 T) (hS : ∀ g, S g → ¬ T g) : OwnersS S w1 v n := by
  obtain ⟨us, h1, h2, h3⟩ := h
  exact ⟨us, h1.chgF h2 hc hS, h2, fun i hi => by obtain ⟨b, e, ho⟩ := h3 i hi; exact ⟨b, e, ho.chg hc hS⟩⟩
theorem OwnersS.below {S : Nat → Prop} {w w1 : World} {v : Value} {n : Nat} (h : OwnersS S w v n) (hb : Below w.heap.size w w1) : OwnersS S w1 v n := h.chg (Chg.of_below (S := fun _ => False) hb) (fun _ _ h => h)
theorem OwnersS.mono {S T : Nat → Prop} {w : World} {v : Value} {n : Nat} (h : OwnersS S w v n) (hS : ∀ g, S g → T g) : OwnersS T w v n := by
  obtain ⟨us, h1, h2, h3⟩ := h
  exact ⟨us, h1, fun h0 g hg => hS g (h2 h0 g hg), fun i hi => by obtain ⟨b, e, ho⟩ := h3 i hi; exact ⟨b, e, ho.mono hS⟩⟩
theorem OwnersS.form {S : Nat → Prop} {w : World} {v : Value} {n : Nat} (h : OwnersS S w v n) : ∃ A c, v = .slice A n c := by
  obtain ⟨us, h1, h2⟩ := h
  exact h1.form
theorem OwnersS.at' {S : Nat → Prop} {w : World} {A : Option Addr} {m c n : Nat} (h : OwnersS S w (.slice A m c) n) (i : Nat) (hi : i < n) : ∃ g o b, A = some ⟨g, o, none⟩ ∧ g < w.heap.size ∧ m = n ∧ n ≤ c ∧ w.cell? ⟨g, o + i, none⟩ = some (.pointer (some ⟨b, 0, none⟩)) ∧ OwnerS S w b (seedS (i : Int)) := by
  obtain ⟨us, h1, -, h2⟩ := h
  obtain ⟨b, e, ho⟩ := h2 i hi
  obtain ⟨g, o, e1, e2, h3, h4, _, h5⟩ := h1.place (by omega)
  exact ⟨g, o, b, e1, h3, e2, h4, h5 i _ e, ho⟩
theorem info_owner : (Try.prog.info? 42).map (fun i => (i.zero, i.size, i.bytes)) = some (some (.pointer none), 1, 8) := by kernel_rfl
/-- What the loop has made so far. -/
def OwnI (w wr : World) (v : Value) (i : Nat) : Prop := Below w.heap.size w wr ∧ ∃ us, wr.ownsRow w.heap.size 42 1 v i us ∧ ∀ j, j < i → ∃ b, us[j]? = some (.pointer (some ⟨b, 0, none⟩)) ∧ OwnerS (fun g => w.heap.size ≤ g ∧ g < wr.heap.size ∧ v.ownBlock ≠ some g) wr b (seedS (j : Int))
set_option maxRecDepth 100000 in
set_option maxHeartbeats 2000000 in
theorem owners_any (n : Nat) (h1 : n ≤ 10) (w : World) :
    Calls Try.prog 7 #[.int .i64 n] w fun e w' => ∃ v, e = .returned v ∧ OwnersS (fun g => w.heap.size ≤ g ∧ g < w'.heap.size) w' v (n + 1) ∧ Below w.heap.size w w' := by
  obtain ⟨i0, hi0, hz0, hz1, hz2⟩ := info_parts info_owner
  go_enter Try.func7, Try.ntmps7
  go_wp2
  go_loopw [3, 4] (fun v3 v4 wr => ∃ (i : Nat) (A : Option Addr) (c : Nat), v3 = .slice A i c ∧ v4 = .int .i64 i ∧ i ≤ n + 1 ∧ Hid (OwnI w wr (.slice A i c) i)) (fun _ v _ => n + 1 - (intOf v).toNat)
  case atStart => exact ⟨0, none, 0, rfl, rfl, Nat.zero_le _, Lib.hid ⟨Below.refl _ _, [], World.ownsRow_nil _ _ _ _, fun j hj => absurd hj (Nat.not_lt_zero _)⟩⟩
  case round =>
    obtain ⟨i, A, c, rfl, rfl, hi, HI⟩ := hrel
    by_cases hlt : i ≤ n
    · have HS := Lib.hid (seed_any (i : Int) (by omega) (by omega) wr)
      have hle : (i : Int) ≤ (n : Int) := by omega
      go_wp2_with fail
      refine HS.out.mono ?_
      rintro e w1 ⟨v1, rfl, h2, h3⟩
      obtain ⟨A1, c1, rfl⟩ := h2.form
      have HN := Lib.hid (rnew_s (fun g => wr.heap.size ≤ g ∧ g < w1.heap.size) _ (seedS (i : Int)) (by rw [seedS_length]; decide) w1 h2.bys (fun _ g hg => World.ownsRow.lt h2 g hg))
      have H1 := Lib.hid h3
      clear h2 h3
      go_wp2_with fail
      refine HN.out.mono ?_
      rintro e w2 ⟨rfl, h4, h5⟩
      have hb2 := H1.out.trans (h5.mono H1.out.size)
      obtain ⟨k1, us, k2, k3⟩ := HI.out
      have k2' := ownsRow_chg k2 (Chg.of_below (S := fun _ => False) hb2) (fun _ _ h => h)
      have hsz := k1.size
      have hsz2 := hb2.size
      have hz1' := H1.out.size
      have hz12 := h5.size
      have H2 := Lib.hid (And.intro hb2 (And.intro h4 (And.intro k2' (And.intro k1 (And.intro k2 k3)))))
      clear k1 k2 k3 k2' h4 h5 hb2
      go_wp2_with (at_builtin; (refine wpList_append_lie rfl (.tmp 10) (.tmp 14) 24 rfl w.heap.size 42 i0 (.pointer none) 1 8 Try.underlying24 hi0 hz0 hz1 hz2 rfl (by decide) _ i us rfl (World.ownsRow.alloc H2.out.2.2.1 _) _ 1 [.pointer (some ⟨w1.heap.size, 0, none⟩)] rfl (news1 _ 42 _ rfl) (by unfold maxLen; omega) (by omega) (by simp; omega) ?_); intro v5 W5 hown5 hgrow5 hlie5; obtain ⟨A5, c5, rfl⟩ := (Sho.own hown5).form; have H5 : Hid (OwnI w W5 (.slice A5 (i + 1) c5) (i + 1)) := Lib.hid (by
          obtain ⟨q1, q2, q3, q4, q5, q6⟩ := H2.out
          have hc5 : Chg w2 W5 (fun g => (Value.slice A i c).ownBlock = some g) := ((Chg.refl w2 _).alloc _).trans (Chg.of_grown hgrow5) (fun i _ h => h.symm)
          have hsz5 := hc5.size
          have hne : ∀ g, g < w2.heap.size → (Value.slice A i c).ownBlock ≠ some g → (Value.slice A5 (i + 1) c5).ownBlock ≠ some g := fun g hg hn => by
            refine LieOf.ne (w := w2.alloc (.cells #[.pointer (some ⟨w1.heap.size, 0, none⟩)] 42)) hlie5 hn (by simp; omega)
          refine ⟨q4.trans (q1.mono hsz) |>.trans (hc5.below (by omega) (fun k hk => (World.ownsRow.lt q5 k hk).1)), us ++ [.pointer (some ⟨w1.heap.size, 0, none⟩)], hown5, fun j hj => ?_⟩
          by_cases hji : j < i
          · obtain ⟨b, e, ho⟩ := q6 j hji
            refine ⟨b, by rw [List.getElem?_append_left (by have := q5.1; omega)]; exact e, ?_⟩
            exact ((ho.chg (Chg.of_below (S := fun _ => False) q1) (fun _ _ h => h)).chg hc5 (fun g hg e => hg.2.2 e)).mono (fun g hg => ⟨hg.1, by have h9 : g < wr.heap.size := hg.2.1; omega, hne g (by have h9 : g < wr.heap.size := hg.2.1; omega) hg.2.2⟩)
          · obtain rfl : j = i := by omega
            refine ⟨w1.heap.size, by rw [List.getElem?_append_right (by have := q5.1; omega), show us.length = j by have := q5.1; omega]; simp, ?_⟩
            have hold : ∀ g, wr.heap.size ≤ g → (Value.slice A j c).ownBlock ≠ some g := fun g hg e => by have := (World.ownsRow.lt q5 g e).2; omega
            have hS : ∀ g, ((wr.heap.size ≤ g ∧ g < w1.heap.size) ∨ (w1.heap.size ≤ g ∧ g < w2.heap.size)) → wr.heap.size ≤ g ∧ g < w2.heap.size := fun g hg => by omega
            exact ((q2.mono hS).chg hc5 (fun g hg e => hold g hg.1 e)).mono (fun g hg => ⟨by have h9 : wr.heap.size ≤ g := hg.1; omega, by have h9 : g < w2.heap.size := hg.2; omega, hne g hg.2 (hold g hg.1)⟩)); clear hown5 hgrow5 hlie5)
      go_roundw
      case rel => exact ⟨i + 1, A5, c5, rfl, by go_num, by omega, H5⟩
      case measure => simp [intOf]; omega
    · obtain rfl : i = n + 1 := by omega
      have hnl : ¬ ((n + 1 : Nat) : Int) ≤ (n : Int) := by omega
      go_wp2
      go_ret
      obtain ⟨k1, us, k2, k3⟩ := HI.out
      exact ⟨_, rfl, ⟨us, Sho.own k2, fun _ g hg => World.ownsRow.lt k2 g hg, fun j hj => by obtain ⟨b, e, ho⟩ := k3 j hj; exact ⟨b, e, ho.mono (fun g hg => ⟨hg.1, hg.2.1⟩)⟩⟩, k1⟩
end Go.Proofs.Ytlkgeifmppadmaa
namespace Go.Proofs.Ytlkgeifmppadmaa
open Go.RowKit
set_option linter.unusedVariables false
set_option linter.unusedSimpArgs false

set_option maxRecDepth 100000 in
set_option maxHeartbeats 2000000 in
theorem clones_any (v : Value) (ls : List (List UInt8)) (hsm : ls.length ≤ 1000000000) (hl : ∀ i (h : i < ls.length), ls[i].length ≤ 1000000000) (w : World) (hx : Rws w v ls) :
    Calls Try.prog 79 #[v] w (RetR w ls) := by
  obtain ⟨i0, hi0, hz0, hz1, hz2⟩ := info_parts info_bytes
  obtain ⟨A, c, rfl⟩ := hx.form
  have HX := Lib.hid (And.intro hx hl)
  clear hx hl
  go_enter Try.func79, Try.ntmps79
  go_wp2
  go_loopw [3, 8] (fun v3 v8 wr => ∃ k : Nat, v8 = .int .i64 k ∧ k ≤ ls.length ∧ Hid (Below w.heap.size w wr ∧ OwnR wr w.heap.size v3 (ls.take k))) (fun _ v _ => ls.length - (intOf v).toNat)
  case atStart => exact ⟨0, rfl, Nat.zero_le _, Lib.hid ⟨Below.refl _ _, OwnR.nil _ _⟩⟩
  case round =>
    obtain ⟨k, rfl, hk, HJ⟩ := hrel
    by_cases hlt : k < ls.length
    · obtain ⟨g, o, u, rfl, hg, -, -, hcu, hbu⟩ := HX.out.1.at' k hlt
      have p0 := (HJ.out.1.cell (p := ⟨g, o + k, none⟩) hg).trans hcu
      obtain ⟨A9, c9, rfl⟩ := hbu.form
      have hX9 := HX.out.2 k hlt
      have HU := Lib.hid (hbu.below HJ.out.1)
      have HT : Hid (ls.take (k + 1) = ls.take k ++ [ls[k]]) := Lib.hid (List.take_succ_eq_append_getElem hlt)
      have HTL : Hid ((ls.take k).length = k) := Lib.hid (by rw [List.length_take]; omega)
      have hal : (ls.take k).length ≤ 1000000000 := by rw [HTL.out]; omega
      have hsz := HJ.out.1.size
      clear hcu hbu
      obtain ⟨A8, c8, rfl⟩ := HJ.out.2.rws.form
      generalize ls[k] = X at *
      generalize ls.take k = L at *
      go_wp2_with fail
      refine (clone_any _ X (by omega) wr HU.out).mono ?_
      rintro e w2 ⟨v2, rfl, h1, h2⟩
      obtain ⟨A2, c2, rfl⟩ := h1.form
      obtain ⟨us, hu1, hu2⟩ := HJ.out.2.keep h2
      have H2 := Lib.hid (And.intro h1 (And.intro h2 (And.intro hu1 hu2)))
      have hsz2 := h2.size
      clear h1 h2 hu1 hu2
      go_wp2_with (at_builtin; (refine wpList_append_lies _ rfl (.tmp 12) (.tmp 15) 31 rfl w.heap.size 30 i0 (.slice none 0 0) 1 24 Try.underlying31 hi0 hz0 hz1 hz2 rfl (by decide) _ L.length us rfl (World.ownsRow.alloc H2.out.2.2.1 _) ⟨w2.heap.size, 0, none⟩ 1 1 [.slice A2 X.length c2] rfl rfl (World.news_of_block (blk_new _ _)) (by simp [Value.oneCell']) (by decide) (by unfold maxLen; omega) (by omega) (by simp; omega) (w2.heap.size + 1) (by simp) ?_); intro g3 c3 W3 hown3 hgrow3 hlie3 hlt3)
      have HR3 := Lib.hid (retr_push HJ.out.2 hsz H2.out.2.1 H2.out.1 H2.out.2.2.2 (by have := H2.out.2.2.1.1; omega) hown3 hgrow3 hlie3)
      go_roundw
      case rel => exact ⟨k + 1, by go_num, by omega, Lib.hid ⟨HJ.out.1.trans HR3.out.2, by rw [HT.out]; exact HR3.out.1⟩⟩
      case measure => simp [intOf]; omega
    · obtain rfl : k = ls.length := by omega
      have HO := HJ.out.2
      rw [List.take_length] at HO
      have HB := Lib.hid (And.intro HO HJ.out.1)
      clear HO HJ
      go_wp2
      go_ret
      exact ⟨_, rfl, HB.out.1, HB.out.2⟩
end Go.Proofs.Ytlkgeifmppadmaa
