/- The heap's Pop and Init; the agenda's New, Add, Next, Due, Len. Conditions: as each theorem states them. -/
import Derived.Test.YtlccileccmiomaaAgB
namespace Go.Proofs.Ytlccileccmiomaa
open Go.RowKit
set_option linter.unusedVariables false
set_option linter.unusedSimpArgs false

/-- What Pop leaves: the least entry, and the others as a heap. -/
def PopPost (w : World) (base b : Nat) (v o : Value) (l : List Ent) (e : Ending) (w' : World) : Prop :=
  ∃ (x : Ent) (v' : Value) (l' : List Ent), e = .returned (.iface 49 (.agg #[.int .i64 x.tm, .int .i64 x.ord, .int .i64 x.wh])) ∧ x = gE l 0 ∧ Ag w' base b v' o l' ∧ HeapFrom l' 0 l'.length ∧ (l' ++ [x]).Perm l ∧ v'.ownBlock = v.ownBlock ∧ Chg w w' (Foot b v)

theorem list_last {l : List Ent} {n : Nat} (h : l.length = n + 1) : l = l.take n ++ [gE l n] := by
  rw [gE_at (by omega), List.take_append_getElem (by omega), List.take_of_length_le (by omega)]

set_option maxHeartbeats 1000000 in
theorem hpop_any (base b : Nat) (v o : Value) (l : List Ent) (h0 : 0 < l.length) (hsm : l.length < 100000000000) (w : World) (ha : Ag w base b v o l) (hh : HeapFrom l 0 l.length) :
    Calls Try.prog 21 #[.iface 47 (.pointer (some ⟨b, 0, none⟩))] w (PopPost w base b v o l) := by
  have HA := Lib.hid ha
  have HH := Lib.hid hh
  obtain ⟨g, cap, rest, rfl, hg, hp⟩ := ha.hp h0
  have HP := Lib.hid hp
  have hcell := hp.cell
  have hmL := meth_Len b (some ⟨g, 0, none⟩) l.length cap w hcell
  have hmS := meth_Swap b (some ⟨g, 0, none⟩) l.length cap w hcell
  have hmP := meth_Pop
  clear ha hh hp hcell
  go_enter Try.func21, Try.ntmps21
  go_wp2_with fail
  refine (len_any _ _ _ _).mono ?_
  rintro e w' ⟨rfl, rfl⟩
  go_wp2_with fail
  refine (swap_b b g cap l rest o _ _ 0 (l.length - 1) rfl (by omega) (by omega) (by omega) w HP.out).mono ?_
  rintro e w1 ⟨rfl, HS⟩
  clear hmL hmS
  go_wp2_with fail
  rw [show ((l.length : Int) - 1) = ((l.length - 1 : Nat) : Int) by omega]
  refine (down_any b g cap (sw l 0 (l.length - 1)) rest o 0 (l.length - 1) (by rw [sw_length]; omega) (Nat.zero_le _) (by rw [sw_length]; omega) w1 HS.out.1 ?_).mono ?_
  · intro k k0 k1 hk
    rw [gE_sw l _ _ _ (by omega) (by omega), gE_sw l _ _ _ (by omega) (by omega), if_neg (by omega), if_neg (by omega), if_neg (by omega), if_neg (by omega)]
    exact HH.out k k0 (by omega) (by omega)
  rintro e w2 ⟨d, l2, rfl, hperm, hheap, hout, hp2, hc2⟩
  have hlen2 : l2.length = (l.length - 1) + 1 := by rw [hperm.length_eq, sw_length]; omega
  have hx : gE l2 (l.length - 1) = gE l 0 := by rw [hout _ (Nat.le_refl _), gE_sw l _ _ _ (by omega) (by omega), if_pos rfl]
  have hsplit := list_last hlen2
  rw [hx] at hsplit
  have hlt : (l2.take (l.length - 1)).length = l.length - 1 := by rw [List.length_take]; omega
  have hg2 : ∀ k, k < l.length - 1 → gE (l2.take (l.length - 1)) k = gE l2 k := fun k hk => by simp [gE, List.getD_eq_getElem?_getD, List.getElem?_take, hk]
  generalize l2.take (l.length - 1) = l3 at *
  have hb2 := hp2.blk
  have hpl2 := hp2.pile
  rw [hlen2, ← hlt] at hb2
  rw [hsplit] at hpl2
  have HR := Lib.hid (And.intro hperm (And.intro hheap (And.intro hp2 (And.intro hc2 (And.intro hlen2 (And.intro hsplit (And.intro hlt hg2)))))))
  have HB2 := Lib.hid hb2
  have HP2 := Lib.hid hpl2
  clear hperm hheap hout hp2 hc2 hlen2 hx hsplit hlt hg2 hb2 hpl2
  go_wp2_with fail
  refine (pop_any b g cap l3 (gE l 0) rest o w2 HB2.out HP2.out HP.out.ne).mono ?_
  rintro e w3 ⟨rfl, hb3, hp3, hc3⟩
  have H3 := Lib.hid (And.intro hb3 (And.intro hp3 hc3))
  clear hb3 hp3 hc3
  go_wp2
  go_ret
  obtain ⟨hperm, hheap, hp2, hc2, hlen2, hsplit, hlt, hg2⟩ := HR.out
  obtain ⟨hb3, hp3, hc3⟩ := H3.out
  refine ⟨gE l 0, _, l3, rfl, rfl, (Hp.mk hb3 hp3 HP.out.ne).ag HA.out.le hg, ?_, ?_, rfl, ?_⟩
  · intro k k0 k1 hk
    rw [hg2 k (by omega), hg2 _ (by omega)]
    exact hheap k k0 (by omega) hk
  · rw [← hsplit]
    exact hperm.trans (sw_perm l _ _ (by omega) (by omega))
  · refine ((HS.out.2.mono (fun k _ hk => .inr ?_)).trans hc2 (fun i _ h => .inr ?_)).trans hc3 (fun i _ h => .inl h)
    · rw [hk]; rfl
    · rw [h]; rfl

theorem Ag.form {w : World} {base b : Nat} {v o : Value} {l : List Ent} (h : Ag w base b v o l) : ∃ A c, v = .slice A l.length c := by
  rcases h.row.2 with ⟨rfl, h2⟩ | ⟨g, cap, cur, rfl, _⟩
  · exact ⟨none, 0, by rw [h2]⟩
  · exact ⟨_, _, rfl⟩
def InitPost (w : World) (base b : Nat) (v o : Value) (l : List Ent) (e : Ending) (w' : World) : Prop :=
  ∃ l' : List Ent, e = .returned (.tuple #[]) ∧ Ag w' base b v o l' ∧ HeapFrom l' 0 l'.length ∧ l'.Perm l ∧ Chg w w' (Foot b v)
set_option maxHeartbeats 1000000 in
theorem hinit_any (base b : Nat) (v o : Value) (l : List Ent) (hsm : l.length < 100000000000) (w : World) (ha : Ag w base b v o l) :
    Calls Try.prog 24 #[.iface 47 (.pointer (some ⟨b, 0, none⟩))] w (InitPost w base b v o l) := by
  have HA := Lib.hid ha
  obtain ⟨A, c, hv⟩ := ha.form
  subst hv
  have hcell := ha.blk.cell 0 _ rfl
  have hmL := meth_Len b A l.length c w hcell
  clear ha hcell
  go_enter Try.func24, Try.ntmps24
  go_wp2_with fail
  refine (len_any _ _ _ _).mono ?_
  rintro e w' ⟨rfl, rfl⟩
  clear hmL
  go_wp2
  go_loopw [3] (fun x wr => ∃ (k : Nat) (l' : List Ent), x = .int .i64 ((k : Int) - 1) ∧ k ≤ l.length ∧ l'.length ≤ l.length ∧ l.length ≤ l'.length ∧ Hid (l'.Perm l ∧ HeapFrom l' k l.length ∧ Ag wr base b (.slice A l.length c) o l' ∧ Chg w wr (Foot b (.slice A l.length c)))) (fun x _ => (intOf x + 1).toNat)
  case atStart =>
    refine ⟨l.length / 2, l, by congr 1, by omega, Nat.le_refl _, Nat.le_refl _, Lib.hid ⟨List.Perm.refl _, ?_, HA.out, Chg.refl _ _⟩⟩
    intro k k0 k1 hk
    omega
  case round =>
    obtain ⟨k, l', rfl, hk, hl1, hl2, HI⟩ := hrel
    by_cases hz : k = 0
    · subst hz
      go_wp2
      go_end0
      have hll : l'.length = l.length := by omega
      exact ⟨l', rfl, HI.out.2.2.1, by rw [hll]; exact HI.out.2.1, HI.out.1, HI.out.2.2.2⟩
    · have hll := Lib.hid (show l'.length = l.length by omega)
      obtain ⟨g, cap, rest, hv, hg, hp⟩ := HI.out.2.2.1.hp (by omega)
      have HV := Lib.hid (And.intro hv (And.intro hg hp))
      clear hv hg hp
      go_wp2_with fail
      rw [show ((k : Int) - 1) = ((k - 1 : Nat) : Int) by omega]
      refine (down_any b g cap l' rest o (k - 1) l.length (by omega) (by omega) (by omega) wr HV.out.2.2 ?_).mono ?_
      · rw [show k - 1 + 1 = k by omega]
        exact HI.out.2.1
      rintro e w2 ⟨d, l2, rfl, hperm, hheap, hout, hp2, hc2⟩
      have HR := Lib.hid (And.intro hperm (And.intro hheap (And.intro hp2 hc2)))
      clear hperm hheap hout hp2 hc2
      go_wp2
      go_roundw
      case rel =>
        obtain ⟨hperm, hheap, hp2, hc2⟩ := HR.out
        obtain ⟨hv, hg, hp⟩ := HV.out
        have e2 : l2.length = l.length := by rw [hperm.length_eq]; exact hll.out
        refine ⟨k - 1, l2, by congr 1, by omega, by omega, by omega, Lib.hid ⟨hperm.trans HI.out.1, hheap, ?_, HI.out.2.2.2.trans hc2 ?_⟩⟩
        · have := hp2.ag HA.out.le hg
          rw [e2, ← hll.out, ← hv] at this
          exact this
        · rintro i hi rfl
          exact .inr (by rw [hv]; rfl)
      case measure => simp [intOf]; omega
end Go.Proofs.Ytlccileccmiomaa
