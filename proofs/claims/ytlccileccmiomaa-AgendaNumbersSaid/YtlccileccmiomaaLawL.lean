/- The law AgendaNumbers. Conditions: as each theorem states them. -/
import Derived.Test.YtlccileccmiomaaLawJ
namespace Go.Proofs.Ytlccileccmiomaa
open Go.RowKit
set_option linter.unusedVariables false
set_option linter.unusedSimpArgs false

def flat3 (P : List (Int × Int × Int)) : List Value := P.flatMap (fun p => [Value.int .i64 p.1, Value.int .i64 p.2.1, Value.int .i64 p.2.2])
def Own3 (w : World) (base : Nat) (v : Value) (P : List (Int × Int × Int)) : Prop := w.ownsRow base 40 3 v P.length (flat3 P)
theorem flat3_append (P Q : List (Int × Int × Int)) : flat3 (P ++ Q) = flat3 P ++ flat3 Q := by simp [flat3]
theorem flat3_length (P : List (Int × Int × Int)) : (flat3 P).length = P.length * 3 := by
  induction P with
  | nil => rfl
  | cons x P ih => show ([_, _, _] ++ flat3 P).length = _; rw [List.length_append, ih]; simp; omega
theorem flat3_at (P : List (Int × Int × Int)) : ∀ (k : Nat) (h : k < P.length), (flat3 P)[k * 3]? = some (.int .i64 P[k].1) ∧ (flat3 P)[k * 3 + 1]? = some (.int .i64 P[k].2.1) ∧ (flat3 P)[k * 3 + 2]? = some (.int .i64 P[k].2.2) := by
  induction P with
  | nil => intro k h; cases h
  | cons x P ih =>
    intro k h
    have e : flat3 (x :: P) = Value.int .i64 x.1 :: Value.int .i64 x.2.1 :: Value.int .i64 x.2.2 :: flat3 P := rfl
    rw [e]
    cases k with
    | zero => exact ⟨rfl, rfl, rfl⟩
    | succ k =>
      have := ih k (by simpa using h)
      rw [show (k + 1) * 3 = k * 3 + 1 + 1 + 1 by omega]
      exact this
theorem info_ask : (Try.prog.info? 40).map (fun i => (i.zero, i.size, i.bytes)) = some (some (.agg #[.int .i64 0, .int .i64 0, .int .i64 0]), 3, 24) := by kernel_rfl
theorem Own3.ge {w : World} {base : Nat} {v : Value} {P : List (Int × Int × Int)} (h : Own3 w base v P) {j : Nat} (e : v.ownBlock = some j) : base ≤ j := by
  rcases h.2 with ⟨rfl, _⟩ | ⟨g, cap, cur, rfl, hb, _⟩
  · simp [Value.ownBlock] at e
  · have : g = j := by simpa [Value.ownBlock] using e
    omega
theorem Own3.form {w : World} {base : Nat} {v : Value} {P : List (Int × Int × Int)} (h : Own3 w base v P) : ∃ A c, v = .slice A P.length c := by
  rcases h.2 with ⟨rfl, h0⟩ | ⟨g, cap, cur, rfl, _⟩
  · exact ⟨_, _, by rw [h0]⟩
  · exact ⟨_, _, rfl⟩
theorem Own3.asks {w : World} {base : Nat} {A : Option Addr} {n c : Nat} {P : List (Int × Int × Int)} (h : Own3 w base (.slice A n c) P) : ArgAsks w A P := by
  intro k hk
  rcases h.2 with ⟨e, h0⟩ | ⟨g, cap, cur, e, hb, hh, hle, hm, hs, ht⟩
  · omega
  · injection e with e1 e2 e3
    have hat : ∀ j u, (flat3 P)[j]? = some u → w.cell? ⟨g, j, none⟩ = some u := by
      intro j u hj
      have hlt : j < P.length * 3 := by rw [← flat3_length]; exact (List.getElem?_eq_some_iff.1 hj).1
      have h1 : (cur.toList.take (P.length * 3))[j]? = some u := by rw [ht]; exact hj
      rw [List.getElem?_take_of_lt hlt] at h1
      simp only [World.cell?, hh]
      simpa using h1
    obtain ⟨q0, q1, q2⟩ := flat3_at P k hk
    refine ⟨g, 0, e1, (Array.getElem?_eq_some_iff.1 hh).1, ?_, ?_, ?_⟩
    · rw [Nat.zero_add]; exact hat _ _ q0
    · rw [Nat.zero_add]; exact hat _ _ q1
    · rw [Nat.zero_add]; exact hat _ _ q2
theorem asks_new (w : World) (t : TypeId) (P : List (Int × Int × Int)) : ArgAsks (w.alloc (.cells (flat3 P).toArray t)) (some ⟨w.heap.size, 0, none⟩) P := by
  intro k hk
  obtain ⟨q0, q1, q2⟩ := flat3_at P k hk
  have hb := Blk.new w t (flat3 P)
  refine ⟨_, 0, rfl, by simp, ?_, ?_, ?_⟩
  · rw [Nat.zero_add]; exact hb.cell _ _ q0
  · rw [Nat.zero_add]; exact hb.cell _ _ q1
  · rw [Nat.zero_add]; exact hb.cell _ _ q2
theorem flat3_one (P : List (Int × Int × Int)) : ∀ u ∈ flat3 P, u.oneCell' = true := by
  intro u hu
  unfold flat3 at hu
  rw [List.mem_flatMap] at hu
  obtain ⟨p, _, hp⟩ := hu
  simp at hp
  rcases hp with rfl | rfl | rfl <;> rfl

set_option maxRecDepth 100000 in
set_option maxHeartbeats 8000000 in
theorem numbers_any (w : World) :
    Calls Try.prog 7 #[] w fun e w' => e = .returned (.bool true) ∧ Below w.heap.size w w' := by
  obtain ⟨i0, hi0, hz0, hz1, hz2⟩ := info_parts info_ask
  go_enter Try.func7, Try.ntmps7
  go_wp2
  go_loopw [1, 2] (fun v1 v2 wr => ∃ (k : Nat) (P : List (Int × Int × Int)), v2 = .int .i64 k ∧ k ≤ 30 ∧ P.length = k ∧ Hid (Below w.heap.size w wr ∧ Own3 wr w.heap.size v1 P)) (fun _ v _ => 30 - (intOf v).toNat)
  case atStart => exact ⟨0, [], rfl, by decide, rfl, Lib.hid ⟨Below.refl _ _, World.ownsRow_nil _ _ _ _⟩⟩
  case round =>
    obtain ⟨k, P, rfl, hk, hP, HI⟩ := hrel
    have HP := Lib.hid hP
    have hP1 : P.length ≤ 30 := by omega
    clear hP
    by_cases hlt : k < 30
    · have hsz := HI.out.1.size
      go_wp2_with (at_builtin; (refine wpList_append_lies _ rfl _ _ 38 rfl w.heap.size 40 i0 (.agg #[.int .i64 0, .int .i64 0, .int .i64 0]) 3 24 Try.underlying38 hi0 hz0 hz1 hz2 rfl (by decide) _ _ _ rfl (World.ownsRow.alloc HI.out.2 _) ⟨wr.heap.size, 0, none⟩ 1 1 [_, _, _] rfl rfl (World.news_of_block (blk_new _ _)) (by simp [Value.oneCell']) (by decide) (by unfold maxLen; omega) (by omega) (by simp; omega) _ rfl ?_); intro gg cc w5 hown hgrow hat hlt5)
      go_roundw
      case rel =>
        have hbl : Below w.heap.size wr w5 := ((Below.refl w.heap.size wr).alloc hsz _).grown hgrow (by simp; omega) (fun j e => HI.out.2.ge e)
        refine ⟨k + 1, P ++ [(1, (k : Int) * 7 % 4, (k : Int) % 9)], by go_num, by omega, by rw [List.length_append, HP.out]; rfl, Lib.hid ⟨HI.out.1.trans hbl, ?_⟩⟩
        unfold Own3
        rw [List.length_append, flat3_append]
        exact hown
      case measure => simp [intOf]; omega
    · obtain rfl : k = 30 := by omega
      rw [show ((30 : Nat) : Int) = 30 from rfl]
      go_wp2
      go_loopw [1, 3] (fun v1 v3 wr => ∃ (k : Nat) (P : List (Int × Int × Int)), v3 = .int .i64 ((k : Int) - 1) ∧ k ≤ 6 ∧ P.length = 30 + 3 * k ∧ Hid (Below w.heap.size w wr ∧ Own3 wr w.heap.size v1 P)) (fun _ v _ => (5 - (intOf v)).toNat)
      case atStart => exact ⟨0, P, rfl, by decide, HP.out, HI⟩
      case round =>
        clear HI
        obtain ⟨k, P, rfl, hk, hP, HI⟩ := hrel
        have HP := Lib.hid hP
        have hP1 : P.length ≤ 50 := by omega
        clear hP
        by_cases hlt : k < 6
        · have hsz := HI.out.1.size
          have hk1 : (k : Int) - 1 < 5 := by omega
          go_wp2_with (at_builtin; (refine wpList_append_lies _ rfl _ _ 38 rfl w.heap.size 40 i0 (.agg #[.int .i64 0, .int .i64 0, .int .i64 0]) 3 24 Try.underlying38 hi0 hz0 hz1 hz2 rfl (by decide) _ _ _ rfl (World.ownsRow.alloc HI.out.2 _) ⟨wr.heap.size, 0, none⟩ 3 3 [_, _, _, _, _, _, _, _, _] rfl rfl (World.news_of_block (blk_new _ _)) (by simp [Value.oneCell']) (by decide) (by unfold maxLen; omega) (by omega) (by simp; omega) _ rfl ?_); intro gg cc w5 hown hgrow hat hlt5)
          go_roundw
          case rel =>
            have hbl : Below w.heap.size wr w5 := ((Below.refl w.heap.size wr).alloc hsz _).grown hgrow (by simp; omega) (fun j e => HI.out.2.ge e)
            refine ⟨k + 1, P ++ [(2, (k : Int) - 1, 0), (3, 0, (k : Int) - 1), (2, (k : Int) - 1, 0)], by go_num, by omega, by rw [List.length_append, HP.out]; simp; omega, Lib.hid ⟨HI.out.1.trans hbl, ?_⟩⟩
            unfold Own3
            rw [List.length_append, flat3_append]
            exact hown
          case measure => simp [intOf]; omega
        · obtain rfl : k = 6 := by omega
          obtain ⟨A1, c1, rfl⟩ := HI.out.2.form
          have HPL := Lib.hid (play_any A1 c1 P wr HI.out.2.asks)
          have HB := Lib.hid HI.out.1
          clear HI
          rw [show ((6 : Nat) : Int) - 1 = 5 from rfl]
          go_wp2_with fail
          refine HPL.out.mono ?_
          rintro e w3 ⟨rfl, h3⟩
          have HB3 := Lib.hid (HB.out.trans (h3.mono HB.out.size))
          clear h3 HPL
          go_wp2_with fail
          have hal : Below w3.heap.size w3 (w3.alloc (.cells (flat3 [(2, 1099511627776, 0), (3, 0, 0), (1, -4611686018427387904, -5), (1, 4611686018427387904, 5), (2, 0, 0), (2, 4611686018427387904, 0)]).toArray 40)) := (Below.refl _ _).alloc (Nat.le_refl _) _
          refine (play_any (some ⟨w3.heap.size, 0, none⟩) 6 [(2, 1099511627776, 0), (3, 0, 0), (1, -4611686018427387904, -5), (1, 4611686018427387904, 5), (2, 0, 0), (2, 4611686018427387904, 0)] _ (asks_new w3 _ _)).mono ?_
          rintro e w4 ⟨rfl, h4⟩
          have h5 : Below w3.heap.size w3 w4 := hal.trans (h4.mono hal.size)
          have HB4 := Lib.hid (HB3.out.trans (h5.mono HB3.out.size))
          clear h4 h5 hal
          go_wp2_with fail
          refine (known_any _).mono ?_
          rintro e w5 ⟨rfl, h6⟩
          have HB5 := Lib.hid (HB4.out.trans (h6.mono HB4.out.size))
          clear h6
          go_wp2
          go_ret
          exact ⟨rfl, HB5.out⟩
end Go.Proofs.Ytlccileccmiomaa
