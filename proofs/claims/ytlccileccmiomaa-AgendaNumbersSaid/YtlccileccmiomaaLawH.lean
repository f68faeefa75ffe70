/- The law's own function put. Conditions: as each theorem states them. -/
import Derived.Test.YtlccileccmiomaaLawG
import Derived.OpenShut
namespace Go.Proofs.Ytlccileccmiomaa
open Go.RowKit
set_option linter.unusedVariables false
set_option linter.unusedSimpArgs false

/-- The slice v shows the pairs P, in block g from place o on; or there are none. -/
def PrsAt (w : World) (g o : Nat) (P : List (Int × Int)) : Prop := ∀ k (h : k < P.length), w.cell? ⟨g, o + k * 2, none⟩ = some (.int .i64 P[k].1) ∧ w.cell? ⟨g, o + k * 2 + 1, none⟩ = some (.int .i64 P[k].2)
def flat2 (P : List (Int × Int)) : List Value := P.flatMap (fun p => [Value.int .i64 p.1, Value.int .i64 p.2])
def Own2 (w : World) (base : Nat) (v : Value) (P : List (Int × Int)) : Prop := w.ownsRow base 62 2 v P.length (flat2 P)
theorem flat2_length (P : List (Int × Int)) : (flat2 P).length = P.length * 2 := by
  induction P with
  | nil => rfl
  | cons x P ih => show ([_, _] ++ flat2 P).length = _; rw [List.length_append, ih]; simp; omega
theorem flat2_append (P Q : List (Int × Int)) : flat2 (P ++ Q) = flat2 P ++ flat2 Q := by simp [flat2]
theorem flat2_at (P : List (Int × Int)) : ∀ (k : Nat) (h : k < P.length), (flat2 P)[k * 2]? = some (.int .i64 P[k].1) ∧ (flat2 P)[k * 2 + 1]? = some (.int .i64 P[k].2) := by
  induction P with
  | nil => intro k h; cases h
  | cons x P ih =>
    intro k h
    have e : flat2 (x :: P) = Value.int .i64 x.1 :: Value.int .i64 x.2 :: flat2 P := rfl
    rw [e]
    cases k with
    | zero => exact ⟨rfl, rfl⟩
    | succ k =>
      have := ih k (by simpa using h)
      rw [show (k + 1) * 2 = k * 2 + 1 + 1 by omega]
      exact this
theorem flat2_one (P : List (Int × Int)) : ∀ u ∈ flat2 P, u.oneCell' = true := by
  intro u hu
  unfold flat2 at hu
  rw [List.mem_flatMap] at hu
  obtain ⟨p, _, hp⟩ := hu
  simp at hp
  rcases hp with rfl | rfl <;> rfl
theorem info_pair : (Try.prog.info? 62).map (fun i => (i.zero, i.size, i.bytes)) = some (some (.agg #[.int .i64 0, .int .i64 0]), 2, 16) := by kernel_rfl
theorem insP_split {x : Int × Int} : ∀ {P : List (Int × Int)} {k : Nat}, P.Pairwise (fun a b => a.1 ≤ b.1) → k ≤ P.length → (∀ j (h : j < P.length), k ≤ j → x.1 < P[j].1) → (∀ j (h : j < P.length), k = j + 1 → P[j].1 ≤ x.1) → insP x P = P.take k ++ x :: P.drop k
  | [], k, _, hk, _, _ => by
    have : k = 0 := by simpa using hk
    subst this
    rfl
  | y :: P, 0, _, _, h1, _ => by
    rw [insP_first (fun z hz => by
      obtain ⟨j, hj, rfl⟩ := List.getElem_of_mem hz
      exact h1 j hj (Nat.zero_le _))]
    rfl
  | y :: P, k + 1, hs, hk, h1, h2 => by
    rw [List.pairwise_cons] at hs
    have hy : y.1 ≤ x.1 := by
      cases k with
      | zero => exact h2 0 (by simp) rfl
      | succ q =>
        have hq : q < P.length := by simp at hk; omega
        have := hs.1 P[q] (List.getElem_mem hq)
        have h3 := h2 (q + 1) (by simp; omega) rfl
        have h4 : (y :: P)[q + 1] = P[q] := rfl
        rw [h4] at h3
        omega
    rw [insP_cons, if_pos hy, List.take_succ_cons, List.drop_succ_cons, List.cons_append]
    rw [insP_split hs.2 (by simpa using hk) (fun j h hj => h1 (j + 1) (by simpa using h) (by omega)) (fun j h hj => h2 (j + 1) (by simpa using h) (by omega))]

theorem prs_news {w : World} {g o : Nat} {P : List (Int × Int)} (h : PrsAt w g o P) : ∀ j u, (flat2 P)[j]? = some u → w.cell? ((⟨g, o, none⟩ : Addr).add j) = some u := by
  intro j u hj
  have hlt : j < P.length * 2 := by
    have := (List.getElem?_eq_some_iff.1 hj).1
    rwa [flat2_length] at this
  obtain ⟨c0, c1⟩ := h (j / 2) (by omega)
  obtain ⟨f0, f1⟩ := flat2_at P (j / 2) (by omega)
  rw [Go.WideShapes.add_plain]
  rcases (show j = j / 2 * 2 ∨ j = j / 2 * 2 + 1 by omega) with e | e
  · rw [e] at hj ⊢
    rw [f0] at hj
    rw [← hj]; exact c0
  · rw [e] at hj ⊢
    rw [f1] at hj
    rw [← hj]; exact c1
theorem PrsAt.take {w : World} {g o : Nat} {P : List (Int × Int)} (h : PrsAt w g o P) (k : Nat) : PrsAt w g o (P.take k) := fun j hj => by
  rw [List.length_take] at hj
  have := h j (by omega)
  rwa [List.getElem_take]
theorem PrsAt.drop {w : World} {g o : Nat} {P : List (Int × Int)} (h : PrsAt w g o P) (k : Nat) : PrsAt w g (o + k * 2) (P.drop k) := fun j hj => by
  rw [List.length_drop] at hj
  have := h (k + j) (by omega)
  rw [List.getElem_drop, show o + k * 2 + j * 2 = o + (k + j) * 2 by omega]
  exact this
theorem PrsAt.below {w w1 : World} {g o B : Nat} {P : List (Int × Int)} (h : PrsAt w g o P) (hb : Below B w w1) (hg : g < B) : PrsAt w1 g o P := fun k hk =>
  ⟨(hb.cell (p := ⟨g, o + k * 2, none⟩) hg).trans (h k hk).1, (hb.cell (p := ⟨g, o + k * 2 + 1, none⟩) hg).trans (h k hk).2⟩
theorem own_empty {w : World} {base g : Nat} {t : TypeId} {size : Nat} (h : Blk w g t []) (hb : base ≤ g) : w.ownsRow base t size (.slice (some ⟨g, 0, none⟩) 0 0) 0 [] :=
  ⟨by simp, .inr ⟨g, 0, #[], rfl, hb, h, Nat.le_refl _, Nat.zero_le _, by simp, by simp⟩⟩
/-- An append, where nothing may be appended too, as a step of a region that draws. -/
theorem step_append_own {P : Program} {w : World} {ops : Array Oper} {o : Oper} {a : Act} {K : Act → World → Prop} {Q : Exit → Act → World → Prop} {E : Prop} (hgd : o.guard = none) (s x : Operand) (t : TypeId)
    (ho : o.op = .call { callee := .builtin .append, args := #[s, x], argTypes := #[t, t] })
    (base : Nat) (e : TypeId) (i : TypeInfo) (z : Value) (size bytes : Nat) (ht : P.underlying t = some (.slice e)) (hi : P.info? e = some i) (hz : i.zero = some z)
    (hsize : i.size = size) (hby : i.bytes = bytes) (hzs : z.cells.size = size) (hsz : 0 < size)
    (v : Value) (n : Nat) (xs : List Value) (hs : a.eval s = v) (hown : w.ownsRow base e size v n xs)
    (ad : Addr) (m c : Nat) (news : List Value) (hx : a.eval x = .slice (some ad) m c) (hl : news.length = m * size) (hnews : ∀ j u, news[j]? = some u → w.cell? (ad.add j) = some u) (h1 : ∀ u ∈ news, u.oneCell' = true)
    (h63 : n + m ≤ maxLen) (hbytes : (n + m) * bytes ≤ 140737488355328) (hbase : base ≤ w.heap.size)
    (h : ∀ v' w', w'.ownsRow base e size v' (n + m) (xs ++ news) → w.grownBy w' v.ownBlock → K (a.put o.dst v') w') :
    if Region.wanted o (yielded ops a.tmps) = true then Oper.wp P o a w K Q else E := by
  have hw : Region.wanted o (yielded ops a.tmps) = true := by simp [Region.wanted, hgd]
  rw [if_pos hw]
  obtain ⟨v', w', hr, h2, h3, _⟩ := run_append_own (P := P) w base t o.type e i z size bytes ht hi hz hsize hby hzs hsz v n xs hown ad m c news hl hnews h1 h63 hbytes hbase
  unfold Oper.wp execOp
  simp only [ho, resolve, invoke, builtin, Sem.run_bind, Sem.run_pure, Result.andThen_ok, List.map_toArray, List.map_cons, List.map_nil, hs, hx, hr]
  exact h v' w' h2 h3
theorem blk_new' {w : World} {n : Nat} (o : Obj) (h : w.heap.size = n) : (w.alloc o).heap[n]? = some o := by subst h; exact blk_new w o
theorem own_ge {w : World} {base n size : Nat} {t : TypeId} {v : Value} {xs : List Value} (h : w.ownsRow base t size v n xs) {j : Nat} (e : v.ownBlock = some j) : base ≤ j := by
  rcases h.2 with ⟨rfl, _⟩ | ⟨g, cap, cur, rfl, hb, _⟩
  · simp [Value.ownBlock] at e
  · have : g = j := by simpa [Value.ownBlock] using e
    omega
theorem own_mono {w : World} {base b2 n size : Nat} {t : TypeId} {v : Value} {xs : List Value} (h : w.ownsRow base t size v n xs) (hb : b2 ≤ base) : w.ownsRow b2 t size v n xs := by
  refine ⟨h.1, ?_⟩
  rcases h.2 with h | ⟨g, cap, cur, e, hg, rest⟩
  · exact .inl h
  · exact .inr ⟨g, cap, cur, e, Nat.le_trans hb hg, rest⟩
def PutPost (w : World) (P : List (Int × Int)) (x : Int × Int) (e : Ending) (w' : World) : Prop :=
  ∃ v, e = .returned v ∧ Own2 w' w.heap.size v (insP x P) ∧ Below w.heap.size w w'
theorem put_end {w w1 W3 : World} {P : List (Int × Int)} {x y : Int} {k : Nat} {v3 : Value} (hs : w.heap.size ≤ w1.heap.size) (h1 : Below w.heap.size w w1) (h3 : Below w1.heap.size w1 W3) (hS : P.Pairwise (fun a b => a.1 ≤ b.1)) (hk : k ≤ P.length) (e1 : ∀ j (h : j < P.length), k ≤ j → x < P[j].1) (e2 : ∀ j (h : j < P.length), k = j + 1 → P[j].1 ≤ x)
    (ho : W3.ownsRow w1.heap.size 62 2 v3 (0 + k + 1 + (P.length - k)) (([] ++ flat2 (P.take k)) ++ [.int .i64 x, .int .i64 y] ++ flat2 (P.drop k))) : PutPost w P (x, y) (.returned v3) W3 := by
  refine ⟨v3, rfl, ?_, h1.trans (h3.mono hs)⟩
  have h := own_mono ho hs
  have e : insP (x, y) P = P.take k ++ (x, y) :: P.drop k := insP_split hS hk e1 e2
  unfold Own2
  have hl : (insP (x, y) P).length = 0 + k + 1 + (P.length - k) := by rw [e]; simp; omega
  have hf : flat2 (insP (x, y) P) = ([] ++ flat2 (P.take k)) ++ [.int .i64 x, .int .i64 y] ++ flat2 (P.drop k) := by
    rw [e, flat2_append]
    simp [flat2]
  rw [hl, hf]
  exact h
set_option maxRecDepth 100000 in
set_option maxHeartbeats 8000000 in
theorem put_go (g o c : Nat) (P : List (Int × Int)) (x y : Int) (w : World) (hP : P.length ≤ 100) (hc : P.length ≤ c) (hcm : c ≤ maxLen) (hg : g < w.heap.size) (hs : P.Pairwise (fun a b => a.1 ≤ b.1)) (h : PrsAt w g o P) :
    Calls Try.prog 28 #[.slice (some ⟨g, o, none⟩) P.length c, .agg #[.int .i64 x, .int .i64 y]] w (PutPost w P (x, y)) := by
  have HP := Lib.hid h
  have HS := Lib.hid hs
  clear h hs
  obtain ⟨i0, hi0, hz0, hz1, hz2⟩ := info_parts info_pair
  go_enter Try.func28, Try.ntmps28
  go_wp2
  have hb0 : Blk (w.alloc (.cells #[.int .i64 x, .int .i64 y] 62)) w.heap.size 62 [.int .i64 x, .int .i64 y] := Blk.new w _ [.int .i64 x, .int .i64 y]
  have HB := Lib.hid (And.intro ((Below.refl w.heap.size w).alloc (Nat.le_refl _) (.cells #[.int .i64 x, .int .i64 y] 62)) (And.intro hb0 (show (w.alloc (.cells #[.int .i64 x, .int .i64 y] 62)).heap.size = w.heap.size + 1 by simp)))
  clear hb0
  generalize w.alloc (.cells #[.int .i64 x, .int .i64 y] 62) = w1 at *
  go_loopw [5] (fun v wr => ∃ k : Nat, v = .int .i64 k ∧ k ≤ P.length ∧ Hid (Below w1.heap.size w1 wr ∧ Blk wr w.heap.size 62 [.int .i64 x, .int .i64 y] ∧ ∀ j (h : j < P.length), k ≤ j → x < P[j].1)) (fun v _ => (intOf v).toNat)
  case atStart => exact ⟨P.length, rfl, Nat.le_refl _, Lib.hid ⟨Below.refl _ _, HB.out.2.1, fun j h hj => by omega⟩⟩
  case round =>
    obtain ⟨k, rfl, hk, HI⟩ := hrel
    have x0 := HI.out.2.1.cell 0 _ rfl
    have x1 := HI.out.2.1.cell 1 _ rfl
    have hsz1 := HB.out.2.2
    have HPW : Hid (PrsAt wr g o P) := Lib.hid ((HP.out.below HB.out.1 hg).below HI.out.1 (by omega))
    by_cases hk0 : k = 0
    · have hkn : (0 < k) = False := by simp [hk0]
      have hk00 : decide ((0 : Int) < (k : Int)) = false := by simp [hk0]
      have hkP : k ≤ P.length := hk
      have HEX : Hid ((∀ j (h : j < P.length), k ≤ j → x < P[j].1) ∧ (∀ j (h : j < P.length), k = j + 1 → P[j].1 ≤ x)) := Lib.hid ⟨HI.out.2.2, fun j h hj => by omega⟩
      clear hk0
      go_wp2
      go_quiet (fail)
      go_wp2
      have HZ := Lib.hid (And.intro (below_drewN HI.out.1 nq) (And.intro (HI.out.1.size) (show PrsAt w1 g o P from HP.out.below HB.out.1 hg)))
      have HC := Lib.hid (And.intro (HB.out.2.1.cell 0 _ rfl) (HB.out.2.1.cell 1 _ rfl))
      have hwz : w1.heap.size ≤ (wr.drewN nq).heap.size := HI.out.1.size
      generalize wr.drewN nq = wz at *
      have hlt1 : w.heap.size < w1.heap.size := by omega
      have hwl : w.heap.size < wz.heap.size := by omega
      have hx0 : wz.cell? ⟨w.heap.size, 0, none⟩ = some (.int .i64 x) := (HZ.out.1.cell (p := ⟨w.heap.size, 0, none⟩) hlt1).trans HC.out.1
      have hx1 : wz.cell? ⟨w.heap.size, 1, none⟩ = some (.int .i64 y) := (HZ.out.1.cell (p := ⟨w.heap.size, 1, none⟩) hlt1).trans HC.out.2
      have hkc : k ≤ c := by omega
      have hgB : g < w1.heap.size := by omega
      obtain hck | hck : c = k ∨ c ≠ k := by omega
      all_goals
        go_region_law (first
          | ((
                 refine step_append_own rfl (.tmp 23) (.tmp 26) 59 rfl w1.heap.size 62 i0 (.agg #[.int .i64 0, .int .i64 0]) 2 16 Try.underlying59 hi0 hz0 hz1 hz2 rfl (by decide) _ 0 [] rfl
                       (by first
                         | exact own_empty (Blk.drew (blk_new' _ rfl)) (by first | omega | (simp; omega))
                         | exact own_empty (Blk.drew (Blk.alloc (blk_new' _ rfl) _)) (by first | omega | (simp; omega))
                         | exact own_empty (Blk.drew (blk_new' _ (by simp))) (by first | omega | (simp; omega)))
                       ⟨g, o, none⟩ k _ (flat2 (P.take k)) rfl (by rw [flat2_length, List.length_take]; omega)
                       (by first
                         | exact prs_news ((HZ.out.2.2.below (below_drewN (HZ.out.1.alloc hwz _) 1) (by omega)).take k)
                         | exact prs_news ((HZ.out.2.2.below (below_drewN ((HZ.out.1.alloc hwz _).alloc (by first | omega | (simp; omega)) _) 1) (by omega)).take k))
                       (flat2_one _) (by unfold maxLen; omega) (by omega) (by first | omega | (simp; omega)) ?_)
             intro v1 W1 hown1 hgrow1
             have FB1 : Below w1.heap.size w1 W1 := by
               first
                 | exact (below_drewN (HZ.out.1.alloc hwz _) 1).grown hgrow1 (by first | omega | (simp; omega)) (fun j e => by have e' : (some wz.heap.size : Option Nat) = some j := e; injection e' with e'; omega)
                 | exact (below_drewN ((HZ.out.1.alloc hwz _).alloc (by first | omega | (simp; omega)) _) 1).grown hgrow1 (by first | omega | (simp; omega)) (fun j e => by have e' : (some wz.heap.size : Option Nat) = some j := e; injection e' with e'; omega)
                 | exact (below_drewN ((HZ.out.1.alloc hwz _).alloc (by first | omega | (simp; omega)) _) 1).grown hgrow1 (by first | omega | (simp; omega)) (fun j e => by have e' : (some (wz.heap.size + 1) : Option Nat) = some j := e; injection e' with e'; omega)
             have hs1 := FB1.size
             have HF1 := Lib.hid FB1
             clear FB1
             have HO1 := Lib.hid hown1
             have HG1 := Lib.hid hgrow1
             clear hown1 hgrow1
             have hy0 : W1.cell? ⟨w.heap.size, 0, none⟩ = some (.int .i64 x) := (HF1.out.cell (p := ⟨w.heap.size, 0, none⟩) hlt1).trans HC.out.1
             have hy1 : W1.cell? ⟨w.heap.size, 1, none⟩ = some (.int .i64 y) := (HF1.out.cell (p := ⟨w.heap.size, 1, none⟩) hlt1).trans HC.out.2)
          | ((
                 refine step_append_own rfl (.tmp 27) (.tmp 29) 59 rfl w1.heap.size 62 i0 (.agg #[.int .i64 0, .int .i64 0]) 2 16 Try.underlying59 hi0 hz0 hz1 hz2 rfl (by decide) _ _ _ rfl
                       (by first | exact HO1.out | exact World.ownsRow.alloc HO1.out _)
                       _ 1 1 [.int .i64 x, .int .i64 y] rfl rfl
                       (by first
                         | exact World.news_of_block (blk_new' _ rfl)
                         | exact World.news_of_block (Blk.grown (Blk.drew (blk_new' _ (by simp))) HG1.out (by intro e; have e' : (some (wz.heap.size + 1) : Option Nat) = some wz.heap.size := e; injection e' with e'; omega))
                         | exact World.news_of_block (Blk.grown (Blk.drew (Blk.alloc (blk_new' _ rfl) _)) HG1.out (by intro e; have e' : (some wz.heap.size : Option Nat) = some (wz.heap.size + 1) := e; injection e' with e'; omega)))
                       (by simp [Value.oneCell']) (by unfold maxLen; omega) (by omega) (by first | omega | (simp; omega)) ?_); intro v2 W2 hown2 hgrow2
             have FB2 : Below w1.heap.size w1 W2 := by
               first
                 | exact (HF1.out.alloc hs1 _).grown hgrow2 (by first | omega | (simp; omega)) (fun j e => own_ge HO1.out e)
                 | exact HF1.out.grown hgrow2 hs1 (fun j e => own_ge HO1.out e)
             have hs2 := FB2.size
             have HF2 := Lib.hid FB2
             have HO2 := Lib.hid hown2
             clear FB2 hown2 hgrow2)
          | ((
                 refine step_append_own rfl (.tmp 30) (.tmp 33) 59 rfl w1.heap.size 62 i0 (.agg #[.int .i64 0, .int .i64 0]) 2 16 Try.underlying59 hi0 hz0 hz1 hz2 rfl (by decide) _ _ _ rfl HO2.out
                       _ (P.length - k) _ (flat2 (P.drop k)) rfl (by rw [flat2_length, List.length_drop])
                       (by first | exact prs_news ((HZ.out.2.2.below HF2.out hgB).drop k) | (intro j u hu; rw [List.drop_eq_nil_of_le (by omega)] at hu; simp [flat2] at hu))
                       (flat2_one _) (by unfold maxLen; omega) (by omega) hs2 ?_); intro v3 W3 hown3 hgrow3
             have HF3 : Hid (Below w1.heap.size w1 W3) := Lib.hid (HF2.out.grown hgrow3 hs2 (fun j e => own_ge HO2.out e))
             have HO3 := Lib.hid hown3
             clear hown3 hgrow3))
        all_goals
          have HPP : PutPost w P (x, y) (.returned v3) W3 := put_end (by omega) HB.out.1 HF3.out HS.out hkP HEX.out.1 HEX.out.2 HO3.out
          have HPX := Lib.hid HPP
          clear HPP
          go_wp2
          go_ret
          exact HPX.out
    · obtain ⟨q, rfl⟩ : ∃ q, k = q + 1 := ⟨k - 1, by omega⟩
      have p0 := (HPW.out q (by omega)).1
      have HQ : Hid (∀ T, P[q].1 = T → P[q].1 = T) := Lib.hid (fun _ h => h)
      generalize hT : P[q].1 = T at *
      have HT := Lib.hid hT
      clear hT
      by_cases hxT : x < T
      · go_wp2
        go_quiet (fail)
        go_wp2
        go_roundw
        case rel => exact ⟨q, by go_num, by omega, Lib.hid ⟨below_drewN HI.out.1 _, HI.out.2.1, fun j h hj => by
          by_cases e : j = q
          · subst e; rw [HT.out]; exact hxT
          · exact HI.out.2.2 j h (by omega)⟩⟩
        case measure => simp [intOf]
      · go_wp2
        go_quiet (fail)
        go_wp2
        obtain ⟨k, hkq⟩ : ∃ k, k = q + 1 := ⟨_, rfl⟩
        have hkP : k ≤ P.length := by omega
        have HEX : Hid ((∀ j (h : j < P.length), k ≤ j → x < P[j].1) ∧ (∀ j (h : j < P.length), k = j + 1 → P[j].1 ≤ x)) := Lib.hid ⟨fun j h hj => HI.out.2.2 j h (by omega), fun j h hj => by
          have e : j = q := by omega
          subst e
          rw [HT.out]; omega⟩
        rw [show ((q : Int) + 1) = (k : Int) by omega]
        clear hkq
        have HZ := Lib.hid (And.intro (below_drewN HI.out.1 nq) (And.intro (HI.out.1.size) (show PrsAt w1 g o P from HP.out.below HB.out.1 hg)))
        have HC := Lib.hid (And.intro (HB.out.2.1.cell 0 _ rfl) (HB.out.2.1.cell 1 _ rfl))
        have hwz : w1.heap.size ≤ (wr.drewN nq).heap.size := HI.out.1.size
        generalize wr.drewN nq = wz at *
        have hlt1 : w.heap.size < w1.heap.size := by omega
        have hwl : w.heap.size < wz.heap.size := by omega
        have hx0 : wz.cell? ⟨w.heap.size, 0, none⟩ = some (.int .i64 x) := (HZ.out.1.cell (p := ⟨w.heap.size, 0, none⟩) hlt1).trans HC.out.1
        have hx1 : wz.cell? ⟨w.heap.size, 1, none⟩ = some (.int .i64 y) := (HZ.out.1.cell (p := ⟨w.heap.size, 1, none⟩) hlt1).trans HC.out.2
        have hkc : k ≤ c := by omega
        have hgB : g < w1.heap.size := by omega
        obtain hck | hck : c = k ∨ c ≠ k := by omega
        all_goals
          go_region_law (first
            | ((
                   refine step_append_own rfl (.tmp 23) (.tmp 26) 59 rfl w1.heap.size 62 i0 (.agg #[.int .i64 0, .int .i64 0]) 2 16 Try.underlying59 hi0 hz0 hz1 hz2 rfl (by decide) _ 0 [] rfl
                         (by first
                           | exact own_empty (Blk.drew (blk_new' _ rfl)) (by first | omega | (simp; omega))
                           | exact own_empty (Blk.drew (Blk.alloc (blk_new' _ rfl) _)) (by first | omega | (simp; omega))
                           | exact own_empty (Blk.drew (blk_new' _ (by simp))) (by first | omega | (simp; omega)))
                         ⟨g, o, none⟩ k _ (flat2 (P.take k)) rfl (by rw [flat2_length, List.length_take]; omega)
                         (by first
                           | exact prs_news ((HZ.out.2.2.below (below_drewN (HZ.out.1.alloc hwz _) 1) (by omega)).take k)
                           | exact prs_news ((HZ.out.2.2.below (below_drewN ((HZ.out.1.alloc hwz _).alloc (by first | omega | (simp; omega)) _) 1) (by omega)).take k))
                         (flat2_one _) (by unfold maxLen; omega) (by omega) (by first | omega | (simp; omega)) ?_)
               intro v1 W1 hown1 hgrow1
               have FB1 : Below w1.heap.size w1 W1 := by
                 first
                   | exact (below_drewN (HZ.out.1.alloc hwz _) 1).grown hgrow1 (by first | omega | (simp; omega)) (fun j e => by have e' : (some wz.heap.size : Option Nat) = some j := e; injection e' with e'; omega)
                   | exact (below_drewN ((HZ.out.1.alloc hwz _).alloc (by first | omega | (simp; omega)) _) 1).grown hgrow1 (by first | omega | (simp; omega)) (fun j e => by have e' : (some wz.heap.size : Option Nat) = some j := e; injection e' with e'; omega)
                   | exact (below_drewN ((HZ.out.1.alloc hwz _).alloc (by first | omega | (simp; omega)) _) 1).grown hgrow1 (by first | omega | (simp; omega)) (fun j e => by have e' : (some (wz.heap.size + 1) : Option Nat) = some j := e; injection e' with e'; omega)
               have hs1 := FB1.size
               have HF1 := Lib.hid FB1
               clear FB1
               have HO1 := Lib.hid hown1
               have HG1 := Lib.hid hgrow1
               clear hown1 hgrow1
               have hy0 : W1.cell? ⟨w.heap.size, 0, none⟩ = some (.int .i64 x) := (HF1.out.cell (p := ⟨w.heap.size, 0, none⟩) hlt1).trans HC.out.1
               have hy1 : W1.cell? ⟨w.heap.size, 1, none⟩ = some (.int .i64 y) := (HF1.out.cell (p := ⟨w.heap.size, 1, none⟩) hlt1).trans HC.out.2)
            | ((
                   refine step_append_own rfl (.tmp 27) (.tmp 29) 59 rfl w1.heap.size 62 i0 (.agg #[.int .i64 0, .int .i64 0]) 2 16 Try.underlying59 hi0 hz0 hz1 hz2 rfl (by decide) _ _ _ rfl
                         (by first | exact HO1.out | exact World.ownsRow.alloc HO1.out _)
                         _ 1 1 [.int .i64 x, .int .i64 y] rfl rfl
                         (by first
                           | exact World.news_of_block (blk_new' _ rfl)
                           | exact World.news_of_block (Blk.grown (Blk.drew (blk_new' _ (by simp))) HG1.out (by intro e; have e' : (some (wz.heap.size + 1) : Option Nat) = some wz.heap.size := e; injection e' with e'; omega))
                           | exact World.news_of_block (Blk.grown (Blk.drew (Blk.alloc (blk_new' _ rfl) _)) HG1.out (by intro e; have e' : (some wz.heap.size : Option Nat) = some (wz.heap.size + 1) := e; injection e' with e'; omega)))
                         (by simp [Value.oneCell']) (by unfold maxLen; omega) (by omega) (by first | omega | (simp; omega)) ?_); intro v2 W2 hown2 hgrow2
               have FB2 : Below w1.heap.size w1 W2 := by
                 first
                   | exact (HF1.out.alloc hs1 _).grown hgrow2 (by first | omega | (simp; omega)) (fun j e => own_ge HO1.out e)
                   | exact HF1.out.grown hgrow2 hs1 (fun j e => own_ge HO1.out e)
               have hs2 := FB2.size
               have HF2 := Lib.hid FB2
               have HO2 := Lib.hid hown2
               clear FB2 hown2 hgrow2)
            | ((
                   refine step_append_own rfl (.tmp 30) (.tmp 33) 59 rfl w1.heap.size 62 i0 (.agg #[.int .i64 0, .int .i64 0]) 2 16 Try.underlying59 hi0 hz0 hz1 hz2 rfl (by decide) _ _ _ rfl HO2.out
                         _ (P.length - k) _ (flat2 (P.drop k)) rfl (by rw [flat2_length, List.length_drop])
                         (by first | exact prs_news ((HZ.out.2.2.below HF2.out hgB).drop k) | (intro j u hu; rw [List.drop_eq_nil_of_le (by omega)] at hu; simp [flat2] at hu))
                         (flat2_one _) (by unfold maxLen; omega) (by omega) hs2 ?_); intro v3 W3 hown3 hgrow3
               have HF3 : Hid (Below w1.heap.size w1 W3) := Lib.hid (HF2.out.grown hgrow3 hs2 (fun j e => own_ge HO2.out e))
               have HO3 := Lib.hid hown3
               clear hown3 hgrow3))
          all_goals
            have HPP : PutPost w P (x, y) (.returned v3) W3 := put_end (by omega) HB.out.1 HF3.out HS.out hkP HEX.out.1 HEX.out.2 HO3.out
            have HPX := Lib.hid HPP
            clear HPP
            go_wp2
            go_ret
            exact HPX.out

set_option maxRecDepth 100000 in
set_option maxHeartbeats 8000000 in
theorem put_nil (x y : Int) (w : World) :
    Calls Try.prog 28 #[.slice none 0 0, .agg #[.int .i64 x, .int .i64 y]] w (PutPost w [] (x, y)) := by
  obtain ⟨i0, hi0, hz0, hz1, hz2⟩ := info_parts info_pair
  go_enter Try.func28, Try.ntmps28
  go_wp2
  have hb0 : Blk (w.alloc (.cells #[.int .i64 x, .int .i64 y] 62)) w.heap.size 62 [.int .i64 x, .int .i64 y] := Blk.new w _ [.int .i64 x, .int .i64 y]
  have HB := Lib.hid (And.intro ((Below.refl w.heap.size w).alloc (Nat.le_refl _) (.cells #[.int .i64 x, .int .i64 y] 62)) (And.intro hb0 (show (w.alloc (.cells #[.int .i64 x, .int .i64 y] 62)).heap.size = w.heap.size + 1 by simp)))
  clear hb0
  generalize w.alloc (.cells #[.int .i64 x, .int .i64 y] 62) = w1 at *
  go_loopw [5] (fun v wr => v = .int .i64 0 ∧ Hid (Below w1.heap.size w1 wr)) (fun v _ => (intOf v).toNat)
  case atStart => exact ⟨rfl, Lib.hid (Below.refl _ _)⟩
  case round =>
    obtain ⟨rfl, HI⟩ := hrel
    have hsz1 := HB.out.2.2
    go_wp2
    go_quiet (fail)
    go_wp2
    have HZ := Lib.hid (below_drewN HI.out nq)
    have HC := Lib.hid (And.intro (HB.out.2.1.cell 0 _ rfl) (HB.out.2.1.cell 1 _ rfl))
    have hwz : w1.heap.size ≤ (wr.drewN nq).heap.size := HI.out.size
    generalize wr.drewN nq = wz at *
    have hlt1 : w.heap.size < w1.heap.size := by omega
    have hwl : w.heap.size < wz.heap.size := by omega
    have hx0 : wz.cell? ⟨w.heap.size, 0, none⟩ = some (.int .i64 x) := (HZ.out.cell (p := ⟨w.heap.size, 0, none⟩) hlt1).trans HC.out.1
    have hx1 : wz.cell? ⟨w.heap.size, 1, none⟩ = some (.int .i64 y) := (HZ.out.cell (p := ⟨w.heap.size, 1, none⟩) hlt1).trans HC.out.2
    go_region_law (first
      | ((refine step_append_lies _ rfl (.tmp 27) (.tmp 29) 59 rfl w1.heap.size 62 i0 (.agg #[.int .i64 0, .int .i64 0]) 2 16 Try.underlying59 hi0 hz0 hz1 hz2 rfl (by decide) _ 0 [] rfl (by first | exact own_empty (Blk.drew (Blk.alloc (blk_new' _ rfl) _)) (by first | omega | (simp; omega)) | exact own_empty (Blk.drew (blk_new' _ (by simp))) (by first | omega | (simp; omega))) _ 1 1 [.int .i64 x, .int .i64 y] rfl rfl (by first | exact World.news_of_block (Blk.drew (blk_new' _ (by simp))) | exact World.news_of_block (Blk.drew (Blk.alloc (blk_new' _ rfl) _))) (by simp [Value.oneCell']) (by decide) (by decide) (by decide) (by first | omega | (simp; omega)) _ rfl ?_); intro g2 c2 W2 hown2 hgrow2 hat2 hlt2
         have FB2 : Below w1.heap.size w1 W2 := by
           first
             | exact (below_drewN ((HZ.out.alloc hwz _).alloc (by first | omega | (simp; omega)) _) 1).grown hgrow2 (by first | omega | (simp; omega)) (fun j e => by have e' : (some wz.heap.size : Option Nat) = some j := e; injection e' with e'; omega)
             | exact (below_drewN ((HZ.out.alloc hwz _).alloc (by first | omega | (simp; omega)) _) 1).grown hgrow2 (by first | omega | (simp; omega)) (fun j e => by have e' : (some (wz.heap.size + 1) : Option Nat) = some j := e; injection e' with e'; omega)
         obtain ⟨hc1, hc2⟩ : 0 + 1 ≤ c2 ∧ 1 ≤ c2 := by
           rcases hown2.2 with ⟨h, _⟩ | ⟨g', cap', cur, e, _, _, hle, _⟩
           · cases h
           · injection e with _ _ e3
             omega
         have HF2 := Lib.hid FB2
         have HO2 := Lib.hid hown2
         clear FB2 hown2 hgrow2 hat2))
    all_goals
      have HPX : Hid (PutPost w [] (x, y) (.returned (.slice (some ⟨g2, 0, none⟩) 1 c2)) W2) := Lib.hid ⟨_, rfl, own_mono HO2.out (by omega), HB.out.1.trans (HF2.out.mono (by omega))⟩
      go_wp2
      go_ret
      exact HPX.out
end Go.Proofs.Ytlccileccmiomaa
