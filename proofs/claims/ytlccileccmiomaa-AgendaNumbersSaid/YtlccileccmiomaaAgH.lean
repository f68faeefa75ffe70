/- slices.SortFunc and slices.SortedFunc at a pile's entries; the agenda's All. Conditions: as each theorem states them. -/
import Derived.Test.YtlccileccmiomaaAgG
import Derived.Test.YtlccileccmiomaaLawA
import Derived.Test.YtlccileccmiomaaShelf
import Derived.OwnWalk
namespace Go.Proofs.Ytlccileccmiomaa
open Go.RowKit Go.Sort
set_option linter.unusedVariables false
set_option linter.unusedSimpArgs false

/-- The sort of an owned row of entries: it shows them in order. -/
def SortPost (w : World) (base : Nat) (v : Value) (l : List Ent) (e : Ending) (w' : World) : Prop :=
  e = .returned (.tuple #[]) ∧ ∃ l', Shows w'.heap.size w' v l' ∧ l'.Perm l ∧ l'.Pairwise (fun a b => ltOf cmpE b a = false) ∧ Below base w w'
theorem sortFunc_any (base : Nat) (v : Value) (l : List Ent) (hsm : l.length < 100000000000) (w : World) (hr : w.ownsRow base 49 3 v l.length (cellsOf l)) (hb : base ≤ w.heap.size) :
    Calls Try.prog 33 #[v, .func (.func 27) #[] #[]] w (SortPost w base v l) := by
  rcases hr.2 with ⟨rfl, h0⟩ | ⟨g, cap, cur, rfl, _, _, _, _, _, _⟩
  · have e : l = [] := List.length_eq_zero_iff.1 h0
    subst e
    refine (Try.slices_SortFunc_none (α := Ent) none 0 _ w).mono ?_
    rintro e w' ⟨rfl, rfl⟩
    exact ⟨rfl, [], .inl ⟨_, _, rfl, rfl⟩, .refl _, List.Pairwise.nil, Below.refl _ _⟩
  · obtain ⟨hg, rest, hp⟩ := row_pile hr rfl
    have hlt := hp.blk.lt
    have eg : ∀ args w, (callFunc 27 args).run Try.prog w = .ok (.enter 27 args) w := enters_of Try.func27 (by kernel_rfl) rfl
    have h := Try.slices_SortFunc 3 Try.isAgg49 Try.sizeOf49 Ent.cells (fun _ => rfl) (fun x u hu => by simp [Ent.cells] at hu; rcases hu with rfl | rfl | rfl <;> rfl) cmpE swo_cmpE 27 #[] g 0 cap l.toArray w eg (cmpLays g 0 l.toArray.size w) (holds_pile hp) hlt (by simp; omega)
    rw [List.size_toArray] at h
    refine h.mono ?_
    rintro e w' ⟨rfl, d', n, os, h1, h2, rfl⟩
    have hsz : d'.size = l.length := by have := h1.1; simpa using this
    have hh := holdsK_sortWorldK Ent.cells 3 w g 0 n l.toArray d' os hlt (holds_pile hp) (by simp [hsz])
    have hc := chg_sorted Ent.cells 3 w g 0 n d' os hlt
    refine ⟨rfl, d'.toList, ?_, ?_, ?_, ?_⟩
    · have := shows_holds (cap := cap) hh (Nat.lt_of_lt_of_le hlt hc.size)
      rwa [hsz] at this
    · have := permIn_list (d := l.toArray) (by simpa using h1)
      simpa using this
    · exact sortedIn_list (by simpa [hsz] using h2)
    · exact hc.below hb (fun k hk => by rw [hk]; exact hg)

def SortedPost (w : World) (l : List Ent) (e : Ending) (w' : World) : Prop :=
  ∃ v l', e = .returned v ∧ Shows w'.heap.size w' v l' ∧ l'.Perm l ∧ l'.Pairwise (fun a b => ltOf cmpE b a = false) ∧ Below w.heap.size w w'
theorem sortedFunc_any (Bs : Nat) (v : Value) (l : List Ent) (hsm : l.length < 100000000000) (w : World) (hBs : Bs < w.heap.size)
    (hc : w.cell? ⟨Bs, 0, none⟩ = some v) (hI : Shows w.heap.size w v l) :
    Calls Try.prog 25 #[.func (.func 34) #[] #[.pointer (some ⟨Bs, 0, none⟩)], .func (.func 27) #[] #[]] w (SortedPost w l) := by
  have H := Lib.hid (collect_any Bs v l hsm w hBs hc hI)
  clear hc hI hBs
  go_enter Try.func25, Try.ntmps25
  go_wp2_with fail
  refine H.out.mono ?_
  rintro e w' ⟨u, rfl, h1, h2⟩
  have HR := Lib.hid h1
  have HB := Lib.hid h2
  clear h1 h2
  go_wp2_with fail
  refine (sortFunc_any w.heap.size u l hsm w' HR.out HB.out.size).mono ?_
  rintro e w2 ⟨rfl, l', h3, h4, h5, h6⟩
  have HR2 := Lib.hid (show SortedPost w l (.returned u) w2 from ⟨u, l', rfl, h3, h4, h5, HB.out.trans h6⟩)
  clear h3 h4 h5 h6
  go_wp2
  go_ret
  exact HR2.out

theorem ints_one (x : Int) : ∀ u ∈ [Value.int .i64 x], u.oneCell' = true := by simp [Value.oneCell']
def AllPost (w : World) (m : List Ent) (e : Ending) (w' : World) : Prop :=
  ∃ v, e = .returned v ∧ Ints w' v (m.map Ent.wh) ∧ Below w.heap.size w w'
set_option maxRecDepth 100000 in
set_option maxHeartbeats 4000000 in
theorem all_any (base b : Nat) (v : Value) (m : List Ent) (ord : Int) (hsm : m.length < 1000000000) (w : World) (h : AgS w base b v m ord) :
    Calls Try.prog 18 #[.pointer (some ⟨b, 0, none⟩)] w (AllPost w m) := by
  obtain ⟨⟨l, ha, hh, hp⟩, hs, _⟩ := h
  have HL := Lib.hid hp.length_eq
  have hc := ha.blk.cell 0 _ rfl
  have hsh : Shows w.heap.size w v l := by
    rcases ha.row.2 with ⟨rfl, h0⟩ | ⟨g, cap, cur, rfl, _⟩
    · exact .inl ⟨_, _, rfl, List.length_eq_zero_iff.1 h0⟩
    · obtain ⟨hg, rest, hq⟩ := row_pile ha.row rfl
      exact .inr ⟨g, cap, rfl, hq.blk.lt, fun k hk => by rw [gE_at hk]; exact hq.cells k hk⟩
  obtain ⟨A, c, rfl⟩ := ha.form
  have HP := Lib.hid hp
  have HS := Lib.hid hs
  have HSH := Lib.hid hsh
  clear ha hh hp hs hsh
  go_enter Try.func18, Try.ntmps18
  go_wp2_with fail
  refine (values_any A l.length c w).mono ?_
  rintro e w1 ⟨rfl, rfl⟩
  have hb1 : Below w.heap.size w (w.alloc (.cells #[.slice A l.length c] 43)) := (Below.refl _ w).alloc (Nat.le_refl _) _
  have H := Lib.hid (sortedFunc_any w.heap.size (.slice A l.length c) l (by have := HL.out; omega) (w.alloc (.cells #[.slice A l.length c] 43)) (by simp) ((Blk.new w 43 [.slice A l.length c]).cell 0 _ rfl) (by
    rcases HSH.out with e | ⟨g, cap, e, hg, hc⟩
    · exact .inl e
    · exact .inr ⟨g, cap, e, by simp; omega, fun k hk => ⟨(hb1.cell (p := ⟨g, k * 3, none⟩) hg).trans (hc k hk).1, (hb1.cell (p := ⟨g, k * 3 + 1, none⟩) hg).trans (hc k hk).2.1, (hb1.cell (p := ⟨g, k * 3 + 2, none⟩) hg).trans (hc k hk).2.2⟩⟩))
  have HB1 := Lib.hid hb1
  clear hb1
  generalize w.alloc (.cells #[.slice A l.length c] 43) = w1 at *
  go_wp2_with fail
  refine H.out.mono ?_
  rintro e w2 ⟨u, l', rfl, h3, h4, h5, h6⟩
  have e1 : l' = m := sorted_eq HS.out.1 (h4.trans HP.out) h5
  subst e1
  have HB2 : Hid (Below w.heap.size w w2) := Lib.hid (HB1.out.trans (h6.mono HB1.out.size))
  clear h4 h5 h6 H
  obtain ⟨i0, hi, hz0, hz1, hz2⟩ := info_parts info_int
  rcases h3 with ⟨A', c', rfl, hn⟩ | ⟨g, cap, rfl, hg, hcs⟩
  · have HN := Lib.hid hn
    clear hn
    go_wp2
    go_loopw [3, 13] (fun v3 v wr => v3 = .slice none 0 0 ∧ v = .int .i64 0 ∧ Hid (Below w.heap.size w wr)) (fun _ _ _ => 0)
    case atStart => exact ⟨rfl, rfl, HB2⟩
    case round =>
      obtain ⟨rfl, rfl, hb⟩ := hrel
      go_wp2
      go_ret
      exact ⟨_, rfl, .inl ⟨_, _, rfl, by rw [HN.out]; rfl⟩, hb.out⟩
  · have HC := Lib.hid hcs
    clear hcs
    go_wp2
    go_loopw [3, 13] (fun v3 v13 wr => ∃ k : Nat, v13 = .int .i64 k ∧ k ≤ l'.length ∧ Hid (Below w2.heap.size w2 wr ∧ Own1 wr w2.heap.size v3 ((l'.map Ent.wh).take k))) (fun _ v _ => l'.length - (intOf v).toNat)
    case atStart => exact ⟨0, rfl, Nat.zero_le _, Lib.hid ⟨Below.refl _ _, World.ownsRow_nil _ _ _ _⟩⟩
    case round =>
      obtain ⟨k, rfl, hk, HI⟩ := hrel
      by_cases hlt : k < l'.length
      · obtain ⟨q0, q1, q2⟩ := HC.out k hlt
        have p0 := (HI.out.1.cell (p := ⟨g, k * 3, none⟩) hg).trans q0
        have p1 := (HI.out.1.cell (p := ⟨g, k * 3 + 1, none⟩) hg).trans q1
        have p2 := (HI.out.1.cell (p := ⟨g, k * 3 + 2, none⟩) hg).trans q2
        clear q0 q1 q2
        have HT : Hid ((l'.map Ent.wh).take (k + 1) = (l'.map Ent.wh).take k ++ [(gE l' k).wh]) := Lib.hid (by
          rw [← List.map_take, ← List.map_take, take_snoc l' k hlt, List.map_append]; rfl)
        have HLN : Hid (((l'.map Ent.wh).take k).length = k) := Lib.hid (by rw [List.length_take, List.length_map]; omega)
        generalize gE l' k = x at *
        go_wp2_with (at_builtin; (refine wpList_append_lies _ rfl _ _ 22 rfl w2.heap.size 3 i0 (.int .i64 0) 1 8 Try.underlying22 hi hz0 hz1 hz2 rfl (by decide) _ _ _ rfl (World.ownsRow.alloc (World.ownsRow.alloc HI.out.2 _) _) ⟨wr.heap.size + 1, 0, none⟩ 1 1 [.int .i64 x.wh] rfl rfl (World.news_of_block (by rw [← World.size_alloc wr]; exact blk_new _ _)) (ints_one _) (by decide) (by rw [HLN.out]; unfold maxLen; omega) (by rw [HLN.out]; omega) (by have := HI.out.1.size; simp; omega) _ rfl ?_); intro gg cc w3 hown hgrow hat hlt3)
        have hg2 : World.grownBy _ w3 u3.ownBlock := hgrow
        have hs2 := HI.out.1.size
        refine ⟨⟨k + 1, by go_num, by omega, Lib.hid ⟨?_, ?_⟩⟩, by simp [intOf]; omega⟩
        · exact ((HI.out.1.alloc hs2 _).alloc (by simp; omega) _).grown hg2 (by simp; omega) (fun j e => HI.out.2.ge e)
        · rw [HT.out]
          unfold Own1
          rw [HLN.out] at hown
          rw [List.length_append, List.map_append, HLN.out]
          exact hown
      · obtain rfl : k = l'.length := by omega
        go_wp2
        go_ret
        have h9 := HI.out.2.ints
        rw [List.take_of_length_le (by simp)] at h9
        exact ⟨_, rfl, h9, HB2.out.trans (HI.out.1.mono HB2.out.size)⟩
end Go.Proofs.Ytlccileccmiomaa
