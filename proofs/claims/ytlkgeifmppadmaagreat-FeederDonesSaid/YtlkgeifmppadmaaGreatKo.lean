/- Seeds and hashes that are asked most; the law's owners. The feeder's Current. The reference's signatures, and which blocks are theirs. The law's signed checkpoints and policies. Conditions: as each theorem states them. -/
import Derived.Test.YtlkgeifmppadmaaGreatKn
import Derived.Test.YtlkgeifmppadmaaGreatKe
import Derived.Test.YtlkgeifmppadmaaGreatKl
import Derived.Laws.ResultCell
import Derived.Test.YtlkgeifmppadmaaGreatKf
import Derived.Test.YtlkgeifmppadmaaGreatKd
namespace Go.Proofs.YtlkgeifmppadmaaGreat
open Go.RowKit
set_option linter.unusedVariables false
set_option linter.unusedSimpArgs false

def seedS (n : Int) : List UInt8 := tagH 99 [[ub (n % 5)]]
def hashS (n : Int) : List UInt8 := tagH 98 [[ub n]]
theorem seedS_length (n : Int) : (seedS n).length = 32 := tagH_length _ _
theorem hashS_length (n : Int) : (hashS n).length = 32 := tagH_length _ _
theorem withinZ_in (n lo hi : Int) (h0 : lo ≤ n) (h1 : n ≤ hi) : withinZ n lo hi = n := by unfold withinZ; rw [if_pos ⟨h0, h1⟩]
theorem one_text (w : World) (b : UInt8) (y : Int) (hy : y = ((b.toNat : Nat) : Int)) : Rws ((w.alloc (.cells #[.int .u8 y] 5)).alloc (.cells #[.slice (some ⟨w.heap.size, 0, none⟩) 1 1] 26)) (.slice (some ⟨w.heap.size + 1, 0, none⟩) 1 1) [[b]] := by
  subst hy
  have h : Bys (w.alloc (.cells #[.int .u8 ((b.toNat : Nat) : Int)] 5)) (.slice (some ⟨w.heap.size, 0, none⟩) 1 1) [b] := Sho.new w 5 (bys [b]) 1 1 1 rfl (Nat.le_refl _) (by decide)
  exact new1 26 (b := w.heap.size + 1) (by simp) h
set_option maxRecDepth 100000 in
theorem seed_any (n : Int) (h0 : 0 ≤ n) (h1 : n ≤ 1000) (w : World) : Calls Tryz.prog 19 #[.int .i64 n] w (RetB w (seedS n)) := by
  have HW := Lib.hid (within_any n 0 1000 (by decide) (by decide) (by decide) w)
  rw [withinZ_in n 0 1000 h0 h1] at HW
  have HB5 : Hid (n % 5 = (((ub (n % 5)).toNat : Nat) : Int)) := Lib.hid (by rw [ub_val]; omega)
  have HS : Hid (seedS n = tagH 99 [[ub (n % 5)]]) := Lib.hid rfl
  generalize seedS n = S at *
  generalize ub (n % 5) = b at *
  go_enter Tryz.func19, Tryz.ntmps19
  go_wp2_with fail
  refine HW.out.mono ?_
  rintro e w' ⟨rfl, rfl⟩
  have hb := ((Below.refl w.heap.size w).alloc (Nat.le_refl _) (.cells #[.int .u8 (n % 5)] 5)).alloc (by simp) (.cells #[.slice (some ⟨w.heap.size, 0, none⟩) 1 1] 26)
  have HT := Lib.hid (And.intro (rtag_any 99 99 rfl _ [[b]] (by simp) (by simp) _ (one_text w b (n % 5) HB5.out)) hb)
  clear hb
  go_wp2_with fail
  refine HT.out.1.mono ?_
  rintro e w2 ⟨v2, rfl, h1, h2⟩
  have H2 := Lib.hid (And.intro h1 h2)
  clear h1 h2
  go_wp2
  go_ret
  exact ⟨_, rfl, by rw [HS.out]; exact own_mono' H2.out.1 (by simp; omega), HT.out.2.trans (H2.out.2.mono (by simp; omega))⟩
set_option maxRecDepth 100000 in
theorem hash_any (n : Int) (h0 : 0 ≤ n) (h1 : n ≤ 100000) (w : World) : Calls Tryz.prog 24 #[.int .i64 n] w (RetB w (hashS n)) := by
  have HW := Lib.hid (within_any n 0 100000 (by decide) (by decide) (by decide) w)
  rw [withinZ_in n 0 100000 h0 h1] at HW
  have e1 : n % 256 = (((ub n).toNat : Nat) : Int) := (ub_val _).symm
  have HS : Hid (hashS n = tagH 98 [[ub n]]) := Lib.hid rfl
  generalize hashS n = S at *
  generalize ub n = b at *
  go_enter Tryz.func24, Tryz.ntmps24
  go_wp2_with fail
  refine HW.out.mono ?_
  rintro e w' ⟨rfl, rfl⟩
  have hb := ((Below.refl w.heap.size w).alloc (Nat.le_refl _) (.cells #[.int .u8 ((b.toNat : Nat) : Int)] 5)).alloc (by simp) (.cells #[.slice (some ⟨w.heap.size, 0, none⟩) 1 1] 26)
  have HT := Lib.hid (And.intro (rtag_any 98 98 rfl _ [[b]] (by simp) (by simp) _ (one_text w b ((b.toNat : Nat) : Int) rfl)) hb)
  clear hb
  go_wp2_with fail
  refine HT.out.1.mono ?_
  rintro e w2 ⟨v2, rfl, h1, h2⟩
  have H2 := Lib.hid (And.intro h1 h2)
  clear h1 h2
  go_wp2
  go_ret
  exact ⟨_, rfl, by rw [HS.out]; exact own_mono' H2.out.1 (by simp; omega), HT.out.2.trans (H2.out.2.mono (by simp; omega))⟩
/-- The first n owners, as a row of pointers, all in blocks of S. -/
def OwnersS (S : Nat → Prop) (w : World) (v : Value) (n : Nat) : Prop := ∃ us, Sho w v n 1 us ∧ (0 < n → ∀ g, v.ownBlock = some g → S g) ∧ ∀ i, i < n → ∃ b, us[i]? = some (.pointer (some ⟨b, 0, none⟩)) ∧ OwnerS S w b (seedS (i : Int))
theorem OwnersS.chg {S T : Nat → Prop} {w w1 : World} {v : Value} {n : Nat} (h : OwnersS S w v n) (hc : Chg w w1 T) (hS : ∀ g, S g → ¬ T g) : OwnersS S w1 v n := by
  obtain ⟨us, h1, h2, h3⟩ := h
  exact ⟨us, h1.chgF h2 hc hS, h2, fun i hi => by obtain ⟨b, e, ho⟩ := h3 i hi; exact ⟨b, e, ho.chg hc hS⟩⟩
theorem OwnersS.below {S : Nat → Prop} {w w1 : World} {v : Value} {n : Nat} (h : OwnersS S w v n) (hb : Below w.heap.size w w1) : OwnersS S w1 v n := h.chg (Chg.of_below (S := fun _ => False) hb) (fun _ _ h => h)
theorem OwnersS.mono {S T : Nat → Prop} {w : World} {v : Value} {n : Nat} (h : OwnersS S w v n) (hS : ∀ g, S g → T g) : OwnersS T w v n := by
  obtain ⟨us, h1, h2, h3⟩ := h
  exact ⟨us, h1, fun h0 g hg => hS g (h2 h0 g hg), fun i hi => by obtain ⟨b, e, ho⟩ := h3 i hi; exact ⟨b, e, ho.mono hS⟩⟩
theorem OwnersS.form {S : Nat → Prop} {w : World} {v : Value} {n : Nat} (h : OwnersS S w v n) : ∃ A c, v = .slice A n c := by
  obtain ⟨us, h1, h2⟩ := h
  exact h1.form
theorem OwnersS.at' {S : Nat → Prop} {w : World} {A : Option Addr} {m c n : Nat} (h : OwnersS S w (.slice A m c) n) (i : Nat) (hi : i < n) : ∃ g o b, A = some ⟨g, o, none⟩ ∧ g < w.heap.size ∧ m = n ∧ n ≤ c ∧ w.cell? ⟨g, o + i, none⟩ = some (.pointer (some ⟨b, 0, none⟩)) ∧ OwnerS S w b (seedS (i : Int)) := by
  obtain ⟨us, h1, -, h2⟩ := h
  obtain ⟨b, e, ho⟩ := h2 i hi
  obtain ⟨g, o, e1, e2, h3, h4, _, h5⟩ := h1.place (by omega)
  exact ⟨g, o, b, e1, h3, e2, h4, h5 i _ e, ho⟩
theorem info_owner : (Tryz.prog.info? 42).map (fun i => (i.zero, i.size, i.bytes)) = some (some (.pointer none), 1, 8) := by kernel_rfl
/-- What the loop has made so far. -/
def OwnI (w wr : World) (v : Value) (i : Nat) : Prop := Below w.heap.size w wr ∧ ∃ us, wr.ownsRow w.heap.size 42 1 v i us ∧ ∀ j, j < i → ∃ b, us[j]? = some (.pointer (some ⟨b, 0, none⟩)) ∧ OwnerS (fun g => w.heap.size ≤ g ∧ g < wr.heap.size ∧ v.ownBlock ≠ some g) wr b (seedS (j : Int))
set_option maxRecDepth 100000 in
set_option maxHeartbeats 2000000 in
theorem owners_any (n : Nat) (h1 : n ≤ 10) (w : World) :
    Calls Tryz.prog 7 #[.int .i64 n] w fun e w' => ∃ v, e = .returned v ∧ OwnersS (fun g => w.heap.size ≤ g ∧ g < w'.heap.size) w' v (n + 1) ∧ Below w.heap.size w w' := by
  obtain ⟨i0, hi0, hz0, hz1, hz2⟩ := info_parts info_owner
  go_enter Tryz.func7, Tryz.ntmps7
  go_wp2
  go_loopw [3, 4] (fun v3 v4 wr => ∃ (i : Nat) (A : Option Addr) (c : Nat), v3 = .slice A i c ∧ v4 = .int .i64 i ∧ i ≤ n + 1 ∧ Hid (OwnI w wr (.slice A i c) i)) (fun _ v _ => n + 1 - (intOf v).toNat)
  case atStart => exact ⟨0, none, 0, rfl, rfl, Nat.zero_le _, Lib.hid ⟨Below.refl _ _, [], World.ownsRow_nil _ _ _ _, fun j hj => absurd hj (Nat.not_lt_zero _)⟩⟩
  case round =>
    obtain ⟨i, A, c, rfl, rfl, hi, HI⟩ := hrel
    by_cases hlt : i ≤ n
    · have HS := Lib.hid (seed_any (i : Int) (by omega) (by omega) wr)
      have hle : (i : Int) ≤ (n : Int) := by omega
      go_wp2_with fail
      refine HS.out.mono ?_
      rintro e w1 ⟨v1, rfl, h2, h3⟩
      obtain ⟨A1, c1, rfl⟩ := h2.form
      have HN := Lib.hid (rnew_s (fun g => wr.heap.size ≤ g ∧ g < w1.heap.size) _ (seedS (i : Int)) (by rw [seedS_length]; decide) w1 h2.bys (fun _ g hg => World.ownsRow.lt h2 g hg))
      have H1 := Lib.hid h3
      clear h2 h3
      go_wp2_with fail
      refine HN.out.mono ?_
      rintro e w2 ⟨rfl, h4, h5⟩
      have hb2 := H1.out.trans (h5.mono H1.out.size)
      obtain ⟨k1, us, k2, k3⟩ := HI.out
      have k2' := ownsRow_chg k2 (Chg.of_below (S := fun _ => False) hb2) (fun _ _ h => h)
      have hsz := k1.size
      have hsz2 := hb2.size
      have hz1' := H1.out.size
      have hz12 := h5.size
      have H2 := Lib.hid (And.intro hb2 (And.intro h4 (And.intro k2' (And.intro k1 (And.intro k2 k3)))))
      clear k1 k2 k3 k2' h4 h5 hb2
      go_wp2_with (at_builtin; (refine wpList_append_lie rfl (.tmp 10) (.tmp 14) 24 rfl w.heap.size 42 i0 (.pointer none) 1 8 Tryz.underlying24 hi0 hz0 hz1 hz2 rfl (by decide) _ i us rfl (World.ownsRow.alloc H2.out.2.2.1 _) _ 1 [.pointer (some ⟨w1.heap.size, 0, none⟩)] rfl (news1 _ 42 _ rfl) (by unfold maxLen; omega) (by omega) (by simp; omega) ?_); intro v5 W5 hown5 hgrow5 hlie5; obtain ⟨A5, c5, rfl⟩ := (Sho.own hown5).form; have H5 : Hid (OwnI w W5 (.slice A5 (i + 1) c5) (i + 1)) := Lib.hid (by
          obtain ⟨q1, q2, q3, q4, q5, q6⟩ := H2.out
          have hc5 : Chg w2 W5 (fun g => (Value.slice A i c).ownBlock = some g) := ((Chg.refl w2 _).alloc _).trans (Chg.of_grown hgrow5) (fun i _ h => h.symm)
          have hsz5 := hc5.size
          have hne : ∀ g, g < w2.heap.size → (Value.slice A i c).ownBlock ≠ some g → (Value.slice A5 (i + 1) c5).ownBlock ≠ some g := fun g hg hn => by
            refine LieOf.ne (w := w2.alloc (.cells #[.pointer (some ⟨w1.heap.size, 0, none⟩)] 42)) hlie5 hn (by simp; omega)
          refine ⟨q4.trans (q1.mono hsz) |>.trans (hc5.below (by omega) (fun k hk => (World.ownsRow.lt q5 k hk).1)), us ++ [.pointer (some ⟨w1.heap.size, 0, none⟩)], hown5, fun j hj => ?_⟩
          by_cases hji : j < i
          · obtain ⟨b, e, ho⟩ := q6 j hji
            refine ⟨b, by rw [List.getElem?_append_left (by have := q5.1; omega)]; exact e, ?_⟩
            exact ((ho.chg (Chg.of_below (S := fun _ => False) q1) (fun _ _ h => h)).chg hc5 (fun g hg e => hg.2.2 e)).mono (fun g hg => ⟨hg.1, by have h9 : g < wr.heap.size := hg.2.1; omega, hne g (by have h9 : g < wr.heap.size := hg.2.1; omega) hg.2.2⟩)
          · obtain rfl : j = i := by omega
            refine ⟨w1.heap.size, by rw [List.getElem?_append_right (by have := q5.1; omega), show us.length = j by have := q5.1; omega]; simp, ?_⟩
            have hold : ∀ g, wr.heap.size ≤ g → (Value.slice A j c).ownBlock ≠ some g := fun g hg e => by have := (World.ownsRow.lt q5 g e).2; omega
            have hS : ∀ g, ((wr.heap.size ≤ g ∧ g < w1.heap.size) ∨ (w1.heap.size ≤ g ∧ g < w2.heap.size)) → wr.heap.size ≤ g ∧ g < w2.heap.size := fun g hg => by omega
            exact ((q2.mono hS).chg hc5 (fun g hg e => hold g hg.1 e)).mono (fun g hg => ⟨by have h9 : wr.heap.size ≤ g := hg.1; omega, by have h9 : g < w2.heap.size := hg.2; omega, hne g hg.2 (hold g hg.1)⟩)); clear hown5 hgrow5 hlie5)
      go_roundw
      case rel => exact ⟨i + 1, A5, c5, rfl, by go_num, by omega, H5⟩
      case measure => simp [intOf]; omega
    · obtain rfl : i = n + 1 := by omega
      have hnl : ¬ ((n + 1 : Nat) : Int) ≤ (n : Int) := by omega
      go_wp2
      go_ret
      obtain ⟨k1, us, k2, k3⟩ := HI.out
      exact ⟨_, rfl, ⟨us, Sho.own k2, fun _ g hg => World.ownsRow.lt k2 g hg, fun j hj => by obtain ⟨b, e, ho⟩ := k3 j hj; exact ⟨b, e, ho.mono (fun g hg => ⟨hg.1, hg.2.1⟩)⟩⟩, k1⟩
end Go.Proofs.YtlkgeifmppadmaaGreat
namespace Go.Proofs.YtlkgeifmppadmaaGreat
open Go.RowKit
set_option linter.unusedVariables false
set_option linter.unusedSimpArgs false

theorem far5 (w : World) (b : Nat) (u0 u1 u2 u3 u4 : Value) (a : Addr) (h : b ≠ a.block) : (((((w.setCell ⟨b, 0, none⟩ u0).setCell ⟨b, 1, none⟩ u1).setCell ⟨b, 2, none⟩ u2).setCell ⟨b, 3, none⟩ u3).setCell ⟨b, 4, none⟩ u4).cell? a = w.cell? a := by
  rw [World.cell?_setCell_far _ _ _ _ h, World.cell?_setCell_far _ _ _ _ h, World.cell?_setCell_far _ _ _ _ h, World.cell?_setCell_far _ _ _ _ h, World.cell?_setCell_far _ _ _ _ h]
/-- A row out of a cell, and a slot beside it. -/
theorem results_row_tmp {P : Program} {fn : Func} {p u : Tmp} {ty : TypeId} (h : fn.results = #[.cell p ty, .tmp u]) (tmps : Array Value) (w : World) (g : Nat) (t : TypeId) (cs : Array Value) (fr : Nat × Nat) (d : TypeDesc)
    (hp : tmps.getD p undef = .pointer (some ⟨g, 0, none⟩)) (hg : w.heap[g]? = some (.cells cs t fr))
    (hu : P.underlying ty = some d) (hd : (match d with | .struct _ | .array _ _ => true | _ => false) = true) (hi : (P.info? ty).map (·.size) = some cs.size) (y : Value) (hy : tmps.getD u undef = y) :
    (results fn tmps).run P w = .ok (.tuple #[.agg cs, y]) w := by
  rw [results_cell_tmp h, hp, hy]
  simp [asAddr, run_loadVar_row w g t ty cs fr d hg hu hd hi, Result.andThen]
def CurPost (w : World) (d : FdD) (e : Ending) (w' : World) : Prop := ∃ v, e = .returned (.tuple #[v, .bool d.has]) ∧ SgF (Fresh w w') w' v d.cur ∧ Below w.heap.size w w'
set_option maxRecDepth 100000 in
set_option maxHeartbeats 8000000 in
theorem current_any (Z : Nat → Prop) (f : Nat) (d : FdD) (hr : d.cur.ck.root.length ≤ 100000000) (hs : SmallSig d.cur.sig) (w : World) (hok : FdAt Z w f d) :
    Calls Tryz.prog 40 #[.pointer (some ⟨f, 0, none⟩)] w (CurPost w d) := by
  obtain ⟨r, us, es, hok⟩ := hok
  have HC := Lib.hid (fun (wz : World) (v : Value) (hz : SgV wz v d.cur) => ckcopy_any v d.cur hr hs wz hz)
  obtain ⟨R, cr, er⟩ := hok.tx.cr.1.form
  obtain ⟨P, cp, ep⟩ := hok.tx.cp.rws.form
  obtain ⟨Q, cq, eq⟩ := hok.tx.cq.rws.form
  have hb0 := (Below.refl w.heap.size w).alloc (Nat.le_refl _) (.cells #[.int .i64 0, .slice none 0 0, .int .i64 0, .slice none 0 0, .slice none 0 0] 40)
  have hk0 := Blk.new w 40 [.int .i64 0, .slice none 0 0, .int .i64 0, .slice none 0 0, .slice none 0 0]
  have hfw := hok.blk.lt
  obtain ⟨base, kb, lb, ab, av, kv, ev, pl, pw, rc, rp, rq, dr, dp, dq⟩ := r
  simp only at er ep eq
  subst er ep eq
  have HW := Lib.hid (And.intro (hok.below hb0) (And.intro hk0 hb0))
  clear hb0 hk0 hok hr hs
  go_enter Tryz.func40, Tryz.ntmps40
  go_wp2
  refine code_at (fun w1 => FdOk Z w1 f d ⟨base, kb, lb, ab, av, kv, ev, pl, pw, .slice R d.cur.ck.root.length cr, .slice P d.cur.sig.parts.length cp, .slice Q d.cur.sig.path.length cq, dr, dp, dq⟩ us es ∧ Blk w1 w.heap.size 40 [.int .i64 0, .slice none 0 0, .int .i64 0, .slice none 0 0, .slice none 0 0] ∧ Below w.heap.size w w1) HW.out ?_
  rintro w1 ⟨k0, k1, kb1⟩
  have H1 := Lib.hid (And.intro k0 (And.intro k1 kb1))
  have hfl := k0.blk.lt
  have hbl := k1.lt
  have f6 : w1.cell? ⟨f, 6, none⟩ = some (.int .i64 d.cur.ck.num) := k0.blk.cell 6 _ rfl
  have f7 : w1.cell? ⟨f, 7, none⟩ = some (.slice R d.cur.ck.root.length cr) := k0.blk.cell 7 _ rfl
  have f8 : w1.cell? ⟨f, 8, none⟩ = some (.int .i64 d.cur.sig.index) := k0.blk.cell 8 _ rfl
  have f9 : w1.cell? ⟨f, 9, none⟩ = some (.slice P d.cur.sig.parts.length cp) := k0.blk.cell 9 _ rfl
  have f10 : w1.cell? ⟨f, 10, none⟩ = some (.slice Q d.cur.sig.path.length cq) := k0.blk.cell 10 _ rfl
  have f11 : w1.cell? ⟨f, 11, none⟩ = some (.bool d.has) := k0.blk.cell 11 _ rfl
  clear k0 k1 kb1 HW
  refine wp_region_held_drew (S := fun w' => w'.cell? ⟨f, 6, none⟩ = some (.int .i64 d.cur.ck.num) ∧ w'.cell? ⟨f, 7, none⟩ = some (.slice R d.cur.ck.root.length cr) ∧ w'.cell? ⟨f, 8, none⟩ = some (.int .i64 d.cur.sig.index) ∧ w'.cell? ⟨f, 9, none⟩ = some (.slice P d.cur.sig.parts.length cp) ∧ w'.cell? ⟨f, 10, none⟩ = some (.slice Q d.cur.sig.path.length cq) ∧ w'.cell? ⟨f, 11, none⟩ = some (.bool d.has)) (by kernel_rfl) ?_ (fun hHeld => ?_)
  · exact ⟨f6, f7, f8, f9, f10, f11⟩
  refine take_yes 0 4 rfl rfl (by kernel_rfl) (by kernel_rfl) (by kernel_rfl) (fun _ _ _ h => h) (by assumption) (by rfl) (v := ?_) ?_ ?_
  rotate_left 1
  · (intro w hSw; (try dsimp only at hSw); go_simp; try with_reducible rfl)
  simp only [List.setIfInBounds_toArray, List.set_cons_zero, List.set_cons_succ]
  refine take_yes 1 5 rfl rfl (by kernel_rfl) (by kernel_rfl) (by kernel_rfl) (fun _ _ _ h => h) (by assumption) (by rfl) (v := ?_) ?_ ?_
  rotate_left 1
  · (intro w hSw; (try dsimp only at hSw); go_simp; try with_reducible rfl)
  simp only [List.setIfInBounds_toArray, List.set_cons_zero, List.set_cons_succ]
  refine take_yes 2 6 rfl rfl (by kernel_rfl) (by kernel_rfl) (by kernel_rfl) (fun _ _ _ h => h) (by assumption) (by rfl) (v := ?_) ?_ ?_
  rotate_left 1
  · (intro w hSw; (try dsimp only at hSw); go_simp; try with_reducible rfl)
  simp only [List.setIfInBounds_toArray, List.set_cons_zero, List.set_cons_succ]
  refine take_yes 3 7 rfl rfl (by kernel_rfl) (by kernel_rfl) (by kernel_rfl) (fun _ _ _ h => h) (by assumption) (by rfl) (v := ?_) ?_ ?_
  rotate_left 1
  · (intro w hSw; (try dsimp only at hSw); go_simp; try with_reducible rfl)
  simp only [List.setIfInBounds_toArray, List.set_cons_zero, List.set_cons_succ]
  refine take_yes 5 9 rfl rfl (by kernel_rfl) (by kernel_rfl) (by kernel_rfl) (fun _ _ _ h => h) (by assumption) (by rfl) (v := ?_) ?_ ?_
  rotate_left 1
  · (intro w hSw; (try dsimp only at hSw); go_simp; try with_reducible rfl)
  simp only [List.setIfInBounds_toArray, List.set_cons_zero, List.set_cons_succ]
  refine take_yes 6 10 rfl rfl (by kernel_rfl) (by kernel_rfl) (by kernel_rfl) (fun _ _ _ h => h) (by assumption) (by rfl) (v := ?_) ?_ ?_
  rotate_left 1
  · (intro w hSw; (try dsimp only at hSw); go_simp; try with_reducible rfl)
  simp only [List.setIfInBounds_toArray, List.set_cons_zero, List.set_cons_succ]
  refine take_yes 7 11 rfl rfl (by kernel_rfl) (by kernel_rfl) (by kernel_rfl) (fun _ _ _ h => h) (by assumption) (by rfl) (v := ?_) ?_ ?_
  rotate_left 1
  · (intro w hSw; (try dsimp only at hSw); go_simp; try with_reducible rfl)
  simp only [List.setIfInBounds_toArray, List.set_cons_zero, List.set_cons_succ]
  refine take_yes 8 12 rfl rfl (by kernel_rfl) (by kernel_rfl) (by kernel_rfl) (fun _ _ _ h => h) (by assumption) (by rfl) (v := ?_) ?_ ?_
  rotate_left 1
  · (intro w hSw; (try dsimp only at hSw); go_simp; try with_reducible rfl)
  simp only [List.setIfInBounds_toArray, List.set_cons_zero, List.set_cons_succ]
  refine wpAnyH_ready (rs := [4]) (by kernel_rfl) (by simp) ?_
  refine AllReadyH.cons rfl (fun K hK => ?_) AllReadyH.nil
  -- 4:  dst := some 8, op := Op.call  callee := Callee.value (Operand.func 34), args := #[Operand.tmp 7], argTypes := #[40] , type := 
  go_simp
  go_at_call 28
  refine (HC.out w1.drew _ ⟨_, _, _, rfl, H1.out.1.tx.cr.1.below (Below.refl _ _).drew, H1.out.1.tx.cp.rws.below (Below.refl _ _).drew, H1.out.1.tx.cq.rws.below (Below.refl _ _).drew⟩).mono ?_
  rintro e w3 ⟨v3, rfl, ⟨r3, p3, q3, rfl, h3, h4, h5⟩, h6'⟩
  obtain ⟨A3, n3, rfl⟩ := h3.1.form
  obtain ⟨A4, n4, rfl⟩ := h4.rws.form
  obtain ⟨A5, n5, rfl⟩ := h5.rws.form
  have h6 : Below w1.heap.size w1 w3 := ⟨h6'.os, h6'.tape, h6'.output, h6'.size, h6'.block⟩
  have kf := H1.out.1.blk.below h6
  have kz := H1.out.2.1.below h6
  have e6 := kf.cell 6 _ rfl
  have e7 := kf.cell 7 _ rfl
  have e8 := kf.cell 8 _ rfl
  have e9 := kf.cell 9 _ rfl
  have e10 := kf.cell 10 _ rfl
  have e11 := kf.cell 11 _ rfl
  have z0 := kz.cell 0 _ rfl
  have z1 := kz.cell 1 _ rfl
  have z2 := kz.cell 2 _ rfl
  have z3 := kz.cell 3 _ rfl
  have z4 := kz.cell 4 _ rfl
  have y0 := kz.free 0
  have y1 := kz.free 1
  have y2 := kz.free 2
  have y3 := kz.free 3
  have y4 := kz.free 4
  have H3 := Lib.hid (And.intro (show BysF (fun g => w1.heap.size ≤ g ∧ g < w3.heap.size) w3 _ d.cur.ck.root from h3) (And.intro (show RwsF (fun g => w1.heap.size ≤ g ∧ g < w3.heap.size) w3 _ d.cur.sig.parts from h4) (And.intro (show RwsF (fun g => w1.heap.size ≤ g ∧ g < w3.heap.size) w3 _ d.cur.sig.path from h5) (And.intro h6 kz))))
  clear h3 h4 h5 h6 h6' kf kz
  go_wp2_with fail
  refine hK.out _ _ ⟨e6, e7, e8, e9, e10, e11⟩ (fun hHeld4 => ?_)
  clear hK K
  try simp only [Act.put, List.setIfInBounds_toArray, List.set_cons_zero, List.set_cons_succ]
  refine wpAnyH_ready (rs := [9]) (by kernel_rfl) (by simp) ?_
  refine AllReadyH.cons rfl (fun K hK => ?_) AllReadyH.nil
  -- 9:  dst := none, op := Op.store 40 (Operand.tmp 2) (Operand.tmp 8), type := 0
  go_simp
  refine hK.out _ _ (by refine ⟨?_, ?_, ?_, ?_, ?_, ?_⟩ <;> refine (far5 w3 w.heap.size _ _ _ _ _ _ (show w.heap.size ≠ f by omega)).trans ?_ <;> assumption) (fun hHeld9 => ?_)
  clear hK K
  try simp only [Act.put, List.setIfInBounds_toArray, List.set_cons_zero, List.set_cons_succ]
  refine take_yes 10 3 rfl rfl (by kernel_rfl) (by kernel_rfl) (by kernel_rfl) (fun _ _ _ h => h) (by assumption) (by rfl) (v := ?_) ?_ ?_
  rotate_left 1
  · (intro w hSw; (try dsimp only at hSw); go_simp; try with_reducible rfl)
  simp only [List.setIfInBounds_toArray, List.set_cons_zero, List.set_cons_succ]
  refine wpAnyH_done (by kernel_rfl) ?_ _
  have hch : Chg w3 (((((w3.setCell ⟨w.heap.size, 0, none⟩ (.int .i64 d.cur.ck.num)).setCell ⟨w.heap.size, 1, none⟩ (.slice A3 d.cur.ck.root.length n3)).setCell ⟨w.heap.size, 2, none⟩ (.int .i64 d.cur.sig.index)).setCell ⟨w.heap.size, 3, none⟩ (.slice A4 d.cur.sig.parts.length n4)).setCell ⟨w.heap.size, 4, none⟩ (.slice A5 d.cur.sig.path.length n5)) (fun k => k = w.heap.size) := chg_cell (chg_cell (chg_cell (chg_cell (chg_cell (Chg.refl w3 _) 0 _) 1 _) 2 _) 3 _) 4 _
  have hfin : Blk (((((w3.setCell ⟨w.heap.size, 0, none⟩ (.int .i64 d.cur.ck.num)).setCell ⟨w.heap.size, 1, none⟩ (.slice A3 d.cur.ck.root.length n3)).setCell ⟨w.heap.size, 2, none⟩ (.int .i64 d.cur.sig.index)).setCell ⟨w.heap.size, 3, none⟩ (.slice A4 d.cur.sig.parts.length n4)).setCell ⟨w.heap.size, 4, none⟩ (.slice A5 d.cur.sig.path.length n5)) w.heap.size 40 [.int .i64 d.cur.ck.num, .slice A3 d.cur.ck.root.length n3, .int .i64 d.cur.sig.index, .slice A4 d.cur.sig.parts.length n4, .slice A5 d.cur.sig.path.length n5] := ((((H3.out.2.2.2.2.set 0 _ (by simp)).set 1 _ (by simp)).set 2 _ (by simp)).set 3 _ (by simp)).set 4 _ (by simp)
  generalize ((((w3.setCell ⟨w.heap.size, 0, none⟩ (.int .i64 d.cur.ck.num)).setCell ⟨w.heap.size, 1, none⟩ (.slice A3 d.cur.ck.root.length n3)).setCell ⟨w.heap.size, 2, none⟩ (.int .i64 d.cur.sig.index)).setCell ⟨w.heap.size, 3, none⟩ (.slice A4 d.cur.sig.parts.length n4)).setCell ⟨w.heap.size, 4, none⟩ (.slice A5 d.cur.sig.path.length n5) = w4 at *
  have HF := Lib.hid (And.intro hch hfin)
  clear hch hfin z0 z1 z2 z3 z4 y0 y1 y2 y3 y4 e6 e7 e8 e9 e10 e11 f6 f7 f8 f9 f10 f11
  go_wp2
  obtain ⟨h5, h4, h6, h7, -⟩ := H3.out
  refine bodyPost_ret (v := .tuple #[.agg [.int .i64 d.cur.ck.num, .slice A3 d.cur.ck.root.length n3, .int .i64 d.cur.sig.index, .slice A4 d.cur.sig.parts.length n4, .slice A5 d.cur.sig.path.length n5].toArray, .bool d.has]) ?_ ?_ ⟨_, rfl, ⟨_, _, _, rfl, ?_, ?_, ?_⟩, ?_⟩
  · exact results_row_tmp Tryz.results40 _ _ w.heap.size 40 _ (0, 0) _ rfl HF.out.2 under_signed rfl size_signed _ rfl
  · rfl
  · exact (h5.chg HF.out.1 (fun g hg e => by have h1 : w1.heap.size ≤ g := hg.1; have h2 : g = w.heap.size := e; omega)).mono (fun g hg => ⟨by have h1 : w1.heap.size ≤ g := hg.1; omega, by have h1 : g < w3.heap.size := hg.2; have := HF.out.1.size; omega⟩)
  · exact (h4.chg HF.out.1 (fun g hg e => by have h1 : w1.heap.size ≤ g := hg.1; have h2 : g = w.heap.size := e; omega)).mono (fun g hg => ⟨by have h1 : w1.heap.size ≤ g := hg.1; omega, by have h1 : g < w3.heap.size := hg.2; have := HF.out.1.size; omega⟩)
  · exact (h6.chg HF.out.1 (fun g hg e => by have h1 : w1.heap.size ≤ g := hg.1; have h2 : g = w.heap.size := e; omega)).mono (fun g hg => ⟨by have h1 : w1.heap.size ≤ g := hg.1; omega, by have h1 : g < w3.heap.size := hg.2; have := HF.out.1.size; omega⟩)
  · exact (H1.out.2.2.trans (h7.mono H1.out.2.2.size)).trans (HF.out.1.below (by have := h7.size; have := H1.out.2.2.size; omega) (fun k hk => by omega))
end Go.Proofs.YtlkgeifmppadmaaGreat
namespace Go.Proofs.YtlkgeifmppadmaaGreat
open Go.RowKit
set_option linter.unusedVariables false
set_option linter.unusedSimpArgs false

/-- A row of one's own, of texts that lie below lo. -/
def OwnT (S : Nat → Prop) (w : World) (lo base : Nat) (v : Value) (ls : List (List UInt8)) : Prop :=
  ∃ us, w.ownsRow base 26 1 v ls.length us ∧ ∀ i (h : i < ls.length), ∃ u, us[i]? = some u ∧ Bys w u ls[i] ∧ (0 < ls[i].length → ∀ g, u.ownBlock = some g → S g ∧ g < lo)
theorem OwnT.nil (S : Nat → Prop) (w : World) (lo base : Nat) : OwnT S w lo base (.slice none 0 0) [] := ⟨[], World.ownsRow_nil _ _ _ _, fun i h => absurd h (Nat.not_lt_zero _)⟩
theorem OwnT.rws {S : Nat → Prop} {w : World} {lo base : Nat} {v : Value} {ls : List (List UInt8)} (h : OwnT S w lo base v ls) : Rws w v ls := by
  obtain ⟨us, h1, h2⟩ := h
  exact ⟨us, Sho.own h1, fun i hi => by obtain ⟨u, e, hu, _⟩ := h2 i hi; exact ⟨u, e, hu⟩⟩
theorem OwnT.chg {S : Nat → Prop} {w w1 : World} {lo base : Nat} {T : Nat → Prop} {v : Value} {ls : List (List UInt8)} (h : OwnT S w lo base v ls) (hc : Chg w w1 T) (hT : ∀ g, T g → lo ≤ g ∧ g < base) : OwnT S w1 lo base v ls := by
  obtain ⟨us, h1, h2⟩ := h
  refine ⟨us, ownsRow_chg h1 hc (fun k hk e => by have := (World.ownsRow.lt h1 k hk).1; have := hT k e; omega), fun i hi => ?_⟩
  obtain ⟨u, e, hx, hn⟩ := h2 i hi
  exact ⟨u, e, Sho.chgF hx (S := fun g => S g ∧ g < lo) hn hc (fun g hg e => by have := hT g e; have := hg.2; omega), hn⟩
theorem OwnT.chg2 {S : Nat → Prop} {w w1 : World} {lo base b : Nat} {v : Value} {ls : List (List UInt8)} (h : OwnT S w lo base v ls) (hc : Chg w w1 (fun k => k = b)) (hb : lo ≤ b ∧ b < base) : OwnT S w1 lo base v ls := h.chg hc (fun g hg => by omega)
theorem OwnT.push {S : Nat → Prop} {w W : World} {lo base : Nat} {v v' u : Value} {ls : List (List UInt8)} {l : List UInt8} {us : List Value} {t : TypeId} {cs : Array Value} (hlo : lo ≤ base)
    (h0 : w.ownsRow base 26 1 v ls.length us) (h1 : ∀ i (h : i < ls.length), ∃ u, us[i]? = some u ∧ Bys w u ls[i] ∧ (0 < ls[i].length → ∀ g, u.ownBlock = some g → S g ∧ g < lo))
    (hu : Bys w u l) (hun : 0 < l.length → ∀ g, u.ownBlock = some g → S g ∧ g < lo)
    (ho : W.ownsRow base 26 1 v' (ls.length + 1) (us ++ [u])) (hg : (w.alloc (.cells cs t)).grownBy W v.ownBlock) : OwnT S W lo base v' (ls ++ [l]) := by
  have hc : Chg w W (fun k => v.ownBlock = some k) := ((Chg.refl w _).alloc _).trans (Chg.of_grown hg) (fun i _ h => h.symm)
  have keep : ∀ (x : Value) (m : List UInt8), Bys w x m → (0 < m.length → ∀ g, x.ownBlock = some g → S g ∧ g < lo) → Bys W x m := fun x m hx hn =>
    Sho.chgF hx (S := fun g => S g ∧ g < lo) hn hc (fun g hg e => by have := (World.ownsRow.lt h0 g e).1; have := hg.2; omega)
  have hl : us.length = ls.length := by have := h0.1; omega
  refine ⟨us ++ [u], by rw [List.length_append]; exact ho, fun i hi => ?_⟩
  by_cases hi' : i < ls.length
  · obtain ⟨x, e, hx, hn⟩ := h1 i hi'
    refine ⟨x, by rw [List.getElem?_append_left (by omega)]; exact e, ?_, ?_⟩
    · rw [List.getElem_append_left hi']; exact keep x _ hx hn
    · rw [List.getElem_append_left hi']; exact hn
  · have : i = ls.length := by simp at hi; omega
    subst this
    refine ⟨u, by rw [List.getElem?_append_right (by omega), hl]; simp, ?_, ?_⟩
    · rw [List.getElem_append_right (Nat.le_refl _)]; simpa using keep u l hu hun
    · intro h0
      exact hun (by rw [List.getElem_append_right (Nat.le_refl _)] at h0; simpa using h0)

theorem OwnT.foot {S : Nat → Prop} {w : World} {lo base : Nat} {v : Value} {ls : List (List UInt8)} (h : OwnT S w lo base v ls) : RwsF (fun g => S g ∨ (base ≤ g ∧ g < w.heap.size)) w v ls := by
  obtain ⟨us, h1, h2⟩ := h
  exact ⟨us, Sho.own h1, fun _ g hg => .inr (World.ownsRow.lt h1 g hg), fun i hi => by obtain ⟨u, e, hu, hn⟩ := h2 i hi; exact ⟨u, e, hu, fun h0 g hg => .inl (hn h0 g hg).1⟩⟩
theorem RwsF.at' {S : Nat → Prop} {w : World} {A : Option Addr} {n c : Nat} {ls : List (List UInt8)} (h : RwsF S w (.slice A n c) ls) (i : Nat) (hi : i < ls.length) : ∃ g o u, A = some ⟨g, o, none⟩ ∧ g < w.heap.size ∧ n = ls.length ∧ ls.length ≤ c ∧ w.cell? ⟨g, o + i, none⟩ = some u ∧ Bys w u ls[i] ∧ (0 < ls[i].length → ∀ g, u.ownBlock = some g → S g) := by
  obtain ⟨us, h1, -, h2⟩ := h
  obtain ⟨u, e, hu, hn⟩ := h2 i hi
  obtain ⟨g, o, e1, e2, h3, h4, _, h5⟩ := h1.place (by omega)
  exact ⟨g, o, u, e1, h3, e2, h4, h5 i u e, hu, hn⟩
set_option maxRecDepth 100000 in
set_option maxHeartbeats 4000000 in
theorem rosign_s (S : Nat → Prop) (b : Nat) (vm : Value) (seed msg : List UInt8) (ix : Int) (h0 : 0 ≤ ix) (h1 : ix < 16) (hsm : seed.length ≤ 1000000000) (hsm2 : msg.length ≤ 1000000000) (w : World) (ho : OwnerS S w b seed) (hm : Bys w vm msg) :
    Calls Tryz.prog 25 #[.pointer (some ⟨b, 0, none⟩), .int .i64 ix, vm] w fun e w' => ∃ v, e = .returned v ∧ SigF (fun g => S g ∨ (w.heap.size ≤ g ∧ g < w'.heap.size)) w' v (signS seed ix msg) ∧ Below w.heap.size w w' := by
  obtain ⟨i0, hi0, hz0, hz1, hz2⟩ := info_parts info_bytes
  obtain ⟨vs, vl, us, k1, -, k2, -, k3, -, k4⟩ := ho
  obtain ⟨As, cs, rfl⟩ := k2.form
  obtain ⟨Am, cm, rfl⟩ := hm.form
  obtain ⟨Al, cl, rfl⟩ := k3.form
  obtain ⟨gl, ol, rfl, -, hgl, hcl, -, hcells⟩ := k3.place (by decide)
  have HO := Lib.hid (And.intro k1 (And.intro k2 (And.intro hm (And.intro hcells k4))))
  have hbw := k1.lt
  have q0 := k1.cell 0 _ rfl
  clear k1 k2 k3 k4 hcells hm
  go_enter Tryz.func25, Tryz.ntmps25
  go_wp2_with fail
  refine calls_at (fun w1 => Below w.heap.size w w1 ∧ Blk w1 w.heap.size 38 [.int .i64 0, .slice none 0 0, .slice none 0 0]) ⟨(Below.refl w.heap.size w).alloc (Nat.le_refl _) _, Blk.new w 38 [.int .i64 0, .slice none 0 0, .slice none 0 0]⟩ ?_
  rintro w1 ⟨hb1, hk1⟩
  refine (rsign_any _ _ seed msg ix (by omega) hsm hsm2 w1 (HO.out.2.1.below hb1) (HO.out.2.2.1.below hb1)).mono ?_
  rintro e w2 ⟨v2, rfl, h2, h3⟩
  have hlt1 := hk1.lt
  have H2 := Lib.hid (And.intro (hb1.trans (h3.mono hb1.size)) (And.intro (hk1.below h3) (h2.foot.mono (fun g hg => (show w.heap.size < g ∧ g < w2.heap.size from ⟨by omega, hg.2⟩)))))
  obtain ⟨A2, c2, rfl⟩ := h2.rws.form
  clear hb1 hk1 h2 h3 q0
  have HPL := Lib.hid (partsS_length seed ix msg)
  have HSG : Hid (signS seed ix msg = ⟨ix, partsS seed ix msg, sigPath seed ix 4⟩) := Lib.hid rfl
  generalize partsS seed ix msg = PS at *
  have hsw := H2.out.2.1.lt
  go_wp2
  refine code_at (fun w3 => Below w.heap.size w w3 ∧ Blk w3 w.heap.size 38 [.int .i64 0, .slice none 0 0, .slice none 0 0] ∧ RwsF (fun g => w.heap.size < g ∧ g < w2.heap.size) w3 (.slice A2 PS.length c2) PS ∧ Blk w3 w2.heap.size 38 [.int .i64 ix, .slice A2 PS.length c2, .slice none 0 0]) ?_ ?_
  · have hal : Below w2.heap.size w2 (w2.alloc (.cells #[.int .i64 ix, .slice A2 PS.length c2, .slice none 0 0] 38)) := (Below.refl _ _).alloc (Nat.le_refl _) _
    exact ⟨H2.out.1.trans (hal.mono H2.out.1.size), H2.out.2.1.below hal, H2.out.2.2.chg (Chg.of_below (S := fun _ => False) hal) (fun g hg h => h), Blk.new w2 38 [.int .i64 ix, .slice A2 PS.length c2, .slice none 0 0]⟩
  intro w3 hw3
  have HW := Lib.hid hw3
  clear hw3 H2
  have HLB7 : Hid (w.heap.size ≤ w2.heap.size) := Lib.hid (by omega)
  generalize w2.heap.size = B7 at *
  go_loopw [8] (fun v8 wr => ∃ h : Nat, v8 = .int .i64 h ∧ h ≤ 4 ∧ Hid (Below w.heap.size w wr ∧ Blk wr w.heap.size 38 [.int .i64 0, .slice none 0 0, .slice none 0 0] ∧ RwsF (fun g => w.heap.size < g ∧ g < B7) wr (.slice A2 PS.length c2) PS ∧ ∃ pv, Blk wr B7 38 [.int .i64 ix, .slice A2 PS.length c2, pv] ∧ OwnT S wr w.heap.size (B7 + 1) pv (sigPath seed ix h))) (fun v _ => 4 - (intOf v).toNat)
  case atStart => exact ⟨0, rfl, by decide, Lib.hid ⟨HW.out.1, HW.out.2.1, HW.out.2.2.1, _, HW.out.2.2.2, OwnT.nil _ _ _ _⟩⟩
  case round =>
    clear HW
    obtain ⟨h, rfl, hh, HI⟩ := hrel
    by_cases hlt : h < 4
    · obtain ⟨pv, kb7, kpu⟩ := HI.out.2.2.2
      obtain ⟨ul, eul, hul⟩ := HO.out.2.2.2.2 h (by omega)
      obtain ⟨Ah, ch, rfl⟩ := hul.rws.form
      have hsib := sib_lt seed ix h0 h1 h hlt
      have hsib0 := (sib_at ix h0 h1 h hlt).1
      obtain ⟨gh, oh, un, rfl, hgh, -, -, hcu, hbu, hbn⟩ := hul.at' (sibS ix h).toNat hsib
      have HACC : Hid (sigPath seed ix (h + 1) = sigPath seed ix h ++ [(levelS seed h)[(sibS ix h).toNat]]) := Lib.hid (by
        show sigPath seed ix h ++ [(levelS seed h).getD (sibS ix h).toNat []] = _
        rw [List.getD_eq_getElem?_getD, List.getElem?_eq_getElem hsib]; rfl)
      have esib : bits BinOp.xor .i64 (ix / 2 ^ h) 1 = ((sibS ix h).toNat : Int) := by rw [Int.toNat_of_nonneg hsib0]; rfl
      have hpl : (sigPath seed ix h).length ≤ 10 := by rw [sigPath_length]; omega
      have hslen : (((sibS ix h).toNat : Nat) : Int) < (((levelS seed h).length : Nat) : Int) := by omega
      obtain ⟨An, cn, rfl⟩ := hbu.form
      have HUN : Hid (0 < ((levelS seed h)[(sibS ix h).toNat]).length → ∀ g, (Value.slice An ((levelS seed h)[(sibS ix h).toNat]).length cn).ownBlock = some g → S g ∧ g < w.heap.size) := Lib.hid (fun hp g hg => ⟨hbn hp g hg, Sho.lt hbu hp g hg⟩)
      have HBU := Lib.hid (hbu.below HI.out.1)
      have r0 := (HI.out.1.cell (p := ⟨b, 1, none⟩) hbw).trans (HO.out.1.cell 1 _ rfl)
      have r1 := (HI.out.1.cell (p := ⟨gl, ol + h, none⟩) hgl).trans (HO.out.2.2.2.1 h _ eul)
      have r2 := (HI.out.1.cell (p := ⟨gh, oh + (sibS ix h).toNat, none⟩) hgh).trans hcu
      obtain ⟨us3, ku1, ku2⟩ := kpu
      obtain ⟨A3, c3, rfl⟩ := (Sho.own ku1).form
      have r3 := kb7.cell 2 _ rfl
      have HK := Lib.hid (And.intro kb7 (And.intro ku1 ku2))
      have hsz := HI.out.1.size
      have h7 := kb7.lt
      have hh5 : (h : Int) < 5 := by omega
      have hh0 : (0 : Int) ≤ (h : Int) := by omega
      have ehc : IntKind.u64.wrap (h : Int) = (h : Int) := by rw [show IntKind.u64.wrap (h : Int) = (h : Int) % 18446744073709551616 by simp [IntKind.wrap, IntKind.bits, IntKind.signed]]; omega
      clear hcu hbu hbn kb7 ku1 ku2 hul eul hsib0
      generalize (levelS seed h)[(sibS ix h).toNat] = X at *
      generalize (sibS ix h).toNat = sb at *
      generalize levelS seed h = L at *
      generalize sigPath seed ix h = SP at *
      go_wp2
      go_region_law (first
        | ((refine step_append_any rfl (.tmp 23) (.tmp 38) 27 rfl (B7 + 1) 26 i0 (.slice none 0 0) 1 24 Tryz.underlying27 hi0 hz0 hz1 hz2 rfl (by decide) _ SP.length us3 rfl (by first | exact HK.out.2.1 | exact World.ownsRow.alloc HK.out.2.1 _) _ 1 [.slice An X.length cn] rfl (by first | exact news1 _ 26 _ rfl | exact news1_drew _ 26 _ rfl) (by unfold maxLen; omega) (by omega) (by simp; omega) ?_); intro v9 W9 hown9 hgrow9'
           obtain ⟨A9, c9, rfl⟩ := (Sho.own hown9).form
           have hgrow9 : (wr.alloc (.cells #[.slice An X.length cn] 26)).grownBy W9 (Value.slice A3 SP.length c3).ownBlock := ⟨hgrow9'.os, hgrow9'.tape, hgrow9'.output, hgrow9'.size, hgrow9'.block⟩
           have HC9 : Hid (OwnT S W9 w.heap.size (B7 + 1) (.slice A9 (SP.length + 1) c9) (SP ++ [X]) ∧ Chg wr W9 (fun k => (Value.slice A3 SP.length c3).ownBlock = some k)) := Lib.hid ⟨OwnT.push (w := wr) (by omega) HK.out.2.1 HK.out.2.2 HBU.out HUN.out hown9 hgrow9, ((Chg.refl wr _).alloc _).trans (Chg.of_grown hgrow9) (fun i _ h => h.symm)⟩
           have HK9 : Hid (Blk W9 B7 38 [.int .i64 ix, .slice A2 PS.length c2, .slice A3 SP.length c3]) := Lib.hid (HK.out.1.chg HC9.out.2 (fun e => by have := (World.ownsRow.lt HK.out.2.1 B7 e).1; omega))
           have s3 := HK9.out.cell 2 _ rfl
           have f3 := HK9.out.free 2
           clear hown9 hgrow9 hgrow9'))
      all_goals
        have hset : Chg W9 (W9.setCell ⟨B7, 2, none⟩ (.slice A9 (SP.length + 1) c9)) (fun k => k = B7) := (Chg.refl W9 _).setCell _ _ (fun _ => rfl)
        have hC9 : Chg wr W9 (fun k => B7 + 1 ≤ k) := HC9.out.2.mono (fun k _ e => (World.ownsRow.lt HK.out.2.1 k e).1)
        have HALL := Lib.hid (show Below w.heap.size w (W9.setCell ⟨B7, 2, none⟩ (.slice A9 (SP.length + 1) c9)) ∧ Blk (W9.setCell ⟨B7, 2, none⟩ (.slice A9 (SP.length + 1) c9)) w.heap.size 38 [.int .i64 0, .slice none 0 0, .slice none 0 0] ∧ RwsF (fun g => w.heap.size < g ∧ g < B7) (W9.setCell ⟨B7, 2, none⟩ (.slice A9 (SP.length + 1) c9)) (.slice A2 PS.length c2) PS ∧ ∃ pv, Blk (W9.setCell ⟨B7, 2, none⟩ (.slice A9 (SP.length + 1) c9)) B7 38 [.int .i64 ix, .slice A2 PS.length c2, pv] ∧ OwnT S (W9.setCell ⟨B7, 2, none⟩ (.slice A9 (SP.length + 1) c9)) w.heap.size (B7 + 1) pv (sigPath seed ix (h + 1)) from
          ⟨(HI.out.1.trans (hC9.below hsz (fun k hk => by omega))).trans (hset.below (by have := hC9.size; omega) (fun k hk => by omega)), (HI.out.2.1.chg hC9 (by omega)).setOther _ _ (fun e => by have e' : w.heap.size = B7 := e; omega), (HI.out.2.2.1.chg hC9 (fun g hg e => by omega)).chg hset (fun g hg e => by omega), _, HK9.out.set 2 _ (by simp), by rw [HACC.out]; exact HC9.out.1.chg hset (fun g hg => by omega)⟩)
        clear hset hC9 s3 f3
        go_wp2
        go_roundw
        case rel => exact ⟨h + 1, by go_num, by omega, HALL⟩
        case measure => simp [intOf]; omega
    · obtain rfl : h = 4 := by omega
      obtain ⟨pv, kb7, kpu⟩ := HI.out.2.2.2
      obtain ⟨A3, c3, rfl⟩ := kpu.rws.form
      have HK := Lib.hid (And.intro kb7 (And.intro HI.out.2.1 (And.intro HI.out.2.2.1 kpu)))
      have HBel := Lib.hid HI.out.1
      clear kb7 kpu HI
      have q0 := HK.out.1.cell 0 _ rfl
      have q1 := HK.out.1.cell 1 _ rfl
      have q2 := HK.out.1.cell 2 _ rfl
      have z0 := HK.out.2.1.cell 0 _ rfl
      have z1 := HK.out.2.1.cell 1 _ rfl
      have z2 := HK.out.2.1.cell 2 _ rfl
      have ff : ∀ k, wr.frozen? ⟨w.heap.size, k, none⟩ = false := fun k => HK.out.2.1.free k
      go_wp2
      have hch : Chg wr (((wr.setCell ⟨w.heap.size, 0, none⟩ (.int .i64 ix)).setCell ⟨w.heap.size, 1, none⟩ (.slice A2 PS.length c2)).setCell ⟨w.heap.size, 2, none⟩ (.slice A3 (sigPath seed ix 4).length c3)) (fun k => k = w.heap.size) := chg_cell (chg_cell (chg_cell (Chg.refl wr _) 0 _) 1 _) 2 _
      have hfin : Blk (((wr.setCell ⟨w.heap.size, 0, none⟩ (.int .i64 ix)).setCell ⟨w.heap.size, 1, none⟩ (.slice A2 PS.length c2)).setCell ⟨w.heap.size, 2, none⟩ (.slice A3 (sigPath seed ix 4).length c3)) w.heap.size 38 [.int .i64 ix, .slice A2 PS.length c2, .slice A3 (sigPath seed ix 4).length c3] := ((HK.out.2.1.set 0 _ (by simp)).set 1 _ (by simp)).set 2 _ (by simp)
      refine bodyPost_ret (v := .agg [.int .i64 ix, .slice A2 PS.length c2, .slice A3 (sigPath seed ix 4).length c3].toArray) ?_ ?_ ⟨_, rfl, ?_, ?_⟩
      · exact results_cell_row Tryz.results25 _ _ w.heap.size 38 _ (0, 0) _ rfl hfin under_sig rfl size_sig
      · rfl
      · rw [HSG.out]
        exact ⟨_, _, rfl, (HK.out.2.2.1.chg hch (fun g hg e => by omega)).mono (fun g hg => .inr ⟨by have h1 : w.heap.size < g := hg.1; omega, by have h1 : g < B7 := hg.2; have := HK.out.1.lt; have := hch.size; omega⟩), (HK.out.2.2.2.chg2 hch (by omega)).foot.mono (fun g hg => by
          rcases hg with h | h
          · exact .inl h
          · exact .inr ⟨by have := HK.out.2.1.lt; have := HLB7.out; omega, h.2⟩)⟩
      · exact HBel.out.trans (hch.below HBel.out.size (fun k hk => by omega))
set_option maxRecDepth 100000 in
set_option maxHeartbeats 1000000 in
theorem rpub_s (S : Nat → Prop) (b : Nat) (seed : List UInt8) (w : World) (ho : OwnerS S w b seed) :
    Calls Tryz.prog 20 #[.pointer (some ⟨b, 0, none⟩)] w fun e w' => ∃ v, e = .returned v ∧ BysF S w v (ownerS seed) ∧ w = w' := by
  obtain ⟨v, vl, us, k1, -, k2, -, k3, -, k4⟩ := ho
  obtain ⟨u, e4, hu⟩ := k4 4 (Nat.le_refl _)
  obtain ⟨Al, cl, rfl⟩ := k3.form
  obtain ⟨gl, ol, rfl, -, hgl, hcl, -, hcells⟩ := k3.place (by decide)
  have p4 := hcells 4 u e4
  have hl1 := (levelS_length seed).2.2.2.2
  obtain ⟨A4, c4, rfl⟩ := hu.rws.form
  obtain ⟨g0, o0, u0, rfl, hg0, -, -, hcu, hbu, hbn⟩ := hu.at' 0 (by omega)
  rw [Nat.add_zero] at hcu
  have q1 := k1.cell 1 _ rfl
  have hl0 : (0 : Int) < ((levelS seed 4).length : Int) := by omega
  have HB : Hid (BysF S w u0 (ownerS seed)) := Lib.hid (by
    unfold ownerS
    rw [List.getD_eq_getElem?_getD, List.getElem?_eq_getElem (show 0 < (levelS seed 4).length by omega)]
    exact ⟨hbu, hbn⟩)
  clear hbu hbn
  obtain ⟨A0, c0, rfl⟩ := HB.out.1.form
  clear hcells hl1 k4 hu k1 k2 k3 e4
  go_enter Tryz.func20, Tryz.ntmps20
  go_wp2
  go_ret
  exact ⟨_, rfl, HB.out, rfl⟩
end Go.Proofs.YtlkgeifmppadmaaGreat
namespace Go.Proofs.YtlkgeifmppadmaaGreat
open Go.RowKit
set_option linter.unusedVariables false
set_option linter.unusedSimpArgs false

def signedS (seed : List UInt8) (z : Int) : SgD := ⟨⟨z, hashS z⟩, (signS seed (z % 16) (bodyS tagCk ⟨z, hashS z⟩))⟩
theorem bodyS_ck_length (z : Int) : (bodyS tagCk ⟨z, hashS z⟩).length ≤ 1000000000 := by
  have := bodyS_length tagCk ⟨z, hashS z⟩
  have h2 : (CkD.mk z (hashS z)).root.length = 32 := hashS_length z
  have h3 : tagCk.length = 16 := rfl
  omega
set_option maxRecDepth 100000 in
set_option maxHeartbeats 8000000 in
theorem signed_any (S : Nat → Prop) (b : Nat) (seed : List UInt8) (z : Int) (h0 : 0 ≤ z) (h1 : z ≤ 256) (hsd : seed.length ≤ 1000000000) (w : World) (ho : OwnerS S w b seed) (hS : ∀ g, S g → g < w.heap.size) :
    Calls Tryz.prog 10 #[.pointer (some ⟨b, 0, none⟩), .int .i64 z] w fun e w' => ∃ v, e = .returned v ∧ SgF (fun g => S g ∨ (w.heap.size ≤ g ∧ g < w'.heap.size)) w' v (signedS seed z) ∧ Below w.heap.size w w' := by
  have hb0 := (Below.refl w.heap.size w).alloc (Nat.le_refl _) (.cells #[.int .i64 0, .slice none 0 0, .int .i64 0, .slice none 0 0, .slice none 0 0] 40)
  have hk0 := Blk.new w 40 [.int .i64 0, .slice none 0 0, .int .i64 0, .slice none 0 0, .slice none 0 0]
  have HW := Lib.hid (And.intro hk0 hb0)
  have HO := Lib.hid ho
  have HMOD : Hid (z.tmod 16 = z % 16) := Lib.hid (Int.tmod_eq_emod_of_nonneg h0)
  have HHA := Lib.hid (fun wz : World => hash_any z h0 (show z ≤ 100000 by omega) wz)
  have HBD := Lib.hid (fun (wz : World) (v : Value) (hz : CkV wz v ⟨z, hashS z⟩) => rckbody_any v ⟨z, hashS z⟩ (show (hashS z).length ≤ 1000000000 by rw [hashS_length]; decide) wz hz)
  change Hid (∀ (wz : World) (v : Value), CkV wz v ⟨z, hashS z⟩ → Calls Tryz.prog 26 #[v] wz fun e w' => ∃ v', e = .returned v' ∧ Bys w' v' (bodyS tagCk ⟨z, hashS z⟩) ∧ Below wz.heap.size wz w') at HBD
  have HSN := Lib.hid (fun (wz : World) (vm : Value) (z1 : OwnerS S wz b seed) (z2 : Bys wz vm (bodyS tagCk ⟨z, hashS z⟩)) => rosign_s S b vm seed (bodyS tagCk ⟨z, hashS z⟩) (z % 16) (by omega) (by omega) hsd (bodyS_ck_length z) wz z1 z2)
  have HSD : Hid (signedS seed z = ⟨⟨z, hashS z⟩, signS seed (z % 16) (bodyS tagCk ⟨z, hashS z⟩)⟩) := Lib.hid rfl
  have HSL := Lib.hid hS
  clear hb0 hk0 ho hS
  generalize signedS seed z = SD at *
  generalize signS seed (z % 16) (bodyS tagCk ⟨z, hashS z⟩) = sg at *
  generalize bodyS tagCk ⟨z, hashS z⟩ = BO at *
  generalize hashS z = RH at *
  go_enter Tryz.func10, Tryz.ntmps10
  go_wp2_with fail
  refine (HHA.out _).mono ?_
  rintro e w1 ⟨v1, rfl, h2, h3⟩
  obtain ⟨A1, n1, rfl⟩ := h2.form
  have hb1 := HW.out.2.trans (h3.mono (by simp))
  have k1 := HW.out.1.below h3
  have hbl1 := k1.lt
  have hf2 : BysF (fun g => w.heap.size < g ∧ g < w1.heap.size) w1 (.slice A1 RH.length n1) RH := h2.foot.mono (fun g hg => ⟨by have h9 := hg.1; simp at h9; omega, hg.2⟩)
  have H1 := Lib.hid (And.intro k1 (And.intro hf2 hb1))
  clear h2 h3 hb1 k1 hf2
  go_wp2
  refine code_at (fun w2 => Blk w2 w.heap.size 40 [.int .i64 0, .slice none 0 0, .int .i64 0, .slice none 0 0, .slice none 0 0] ∧ BysF (fun g => w.heap.size < g ∧ g < w1.heap.size) w2 (.slice A1 RH.length n1) RH ∧ Blk w2 w1.heap.size 36 [.int .i64 z, .slice A1 RH.length n1] ∧ Below w.heap.size w w2) ?_ ?_
  · have hal := (Below.refl w1.heap.size w1).alloc (Nat.le_refl _) (.cells #[.int .i64 z, .slice A1 RH.length n1] 36)
    exact ⟨H1.out.1.below hal, H1.out.2.1.below hal, Blk.new w1 36 [.int .i64 z, .slice A1 RH.length n1], H1.out.2.2.trans (hal.mono H1.out.2.2.size)⟩
  rintro w2 ⟨k0, k1, k2, k3⟩
  have H2 := Lib.hid (And.intro k0 (And.intro k1 (And.intro k2 k3)))
  have c0 := k2.cell 0 _ rfl
  have c1 := k2.cell 1 _ rfl
  clear k0 k1 k2 k3
  refine wp_region_held_drew (S := fun w' => w'.cell? ⟨w1.heap.size, 0, none⟩ = some (.int .i64 z) ∧ w'.cell? ⟨w1.heap.size, 1, none⟩ = some (.slice A1 RH.length n1)) (by kernel_rfl) ?_ (fun hHeld => ?_)
  · exact ⟨c0, c1⟩
  refine take_yes 0 10 rfl rfl (by kernel_rfl) (by kernel_rfl) (by kernel_rfl) (fun _ _ _ h => h) (by assumption) (by rfl) (v := ?_) ?_ ?_
  rotate_left 1
  · (intro w hSw; (try dsimp only at hSw); go_simp; try with_reducible rfl)
  simp only [List.setIfInBounds_toArray, List.set_cons_zero, List.set_cons_succ]
  refine take_yes 1 11 rfl rfl (by kernel_rfl) (by kernel_rfl) (by kernel_rfl) (fun _ _ _ h => h) (by assumption) (by rfl) (v := ?_) ?_ ?_
  rotate_left 1
  · (intro w hSw; (try dsimp only at hSw); go_simp; try with_reducible rfl)
  simp only [List.setIfInBounds_toArray, List.set_cons_zero, List.set_cons_succ]
  refine take_yes 2 12 rfl rfl (by kernel_rfl) (by kernel_rfl) (by kernel_rfl) (fun _ _ _ h => h) (by assumption) (by rfl) (v := ?_) ?_ ?_
  rotate_left 1
  · (intro w hSw; (try dsimp only at hSw); go_simp; try with_reducible rfl)
  simp only [List.setIfInBounds_toArray, List.set_cons_zero, List.set_cons_succ]
  refine take_yes 3 13 rfl rfl (by kernel_rfl) (by kernel_rfl) (by kernel_rfl) (fun _ _ _ h => h) (by assumption) (by rfl) (v := ?_) ?_ ?_
  rotate_left 1
  · (intro w hSw; (try dsimp only at hSw); go_simp; try with_reducible rfl)
  simp only [List.setIfInBounds_toArray, List.set_cons_zero, List.set_cons_succ]
  refine take_yes 4 14 rfl rfl (by kernel_rfl) (by kernel_rfl) (by kernel_rfl) (fun _ _ _ h => h) (by assumption) (by rfl) (v := ?_) ?_ ?_
  rotate_left 1
  · (intro w hSw; (try dsimp only at hSw); go_simp; try with_reducible rfl)
  simp only [List.setIfInBounds_toArray, List.set_cons_zero, List.set_cons_succ]
  refine wpAnyH_ready (rs := [5]) (by kernel_rfl) (by simp) ?_
  refine AllReadyH.cons rfl (fun K hK => ?_) AllReadyH.nil
  -- 5:  dst := some 15, op := Op.call  callee := Callee.value (Operand.func 29), args := #[Operand.tmp 14], argTypes := #[36] , type :
  go_simp
  go_at_call 26
  refine (HBD.out w2.drew _ ⟨_, rfl, H2.out.2.1.1.below (Below.refl _ _).drew⟩).mono ?_
  rintro e w3 ⟨v3, rfl, h3, h4'⟩
  obtain ⟨A3, n3, rfl⟩ := h3.form
  have h4 : Below w2.heap.size w2 w3 := ⟨h4'.os, h4'.tape, h4'.output, h4'.size, h4'.block⟩
  have k5 := H2.out.2.2.1.below h4
  have e0 := k5.cell 0 _ rfl
  have e1 := k5.cell 1 _ rfl
  have H3 := Lib.hid (And.intro h3 (And.intro h4 (And.intro k5 (H2.out.1.below h4))))
  clear h3 h4 h4' k5
  go_wp2_with fail
  refine hK.out _ _ ⟨e0, e1⟩ (fun hHeld5 => ?_)
  clear hK K
  try simp only [Act.put, List.setIfInBounds_toArray, List.set_cons_zero, List.set_cons_succ]
  refine wpAnyH_ready (rs := [6]) (by kernel_rfl) (by simp) ?_
  refine AllReadyH.cons rfl (fun K hK => ?_) AllReadyH.nil
  -- 6:  dst := some 16, op := Op.call  callee := Callee.value (Operand.func 28), args := #[Operand.tmp 11, Operand.tmp 13, Operand.tmp 
  go_simp
  go_at_call 25
  rw [HMOD.out]
  refine (HSN.out w3 _ (HO.out.chg (Chg.of_below (S := fun _ => False) (H2.out.2.2.2.trans (H3.out.2.1.mono H2.out.2.2.2.size))) (fun _ _ h => h)) H3.out.1).mono ?_
  rintro e w4 ⟨v4, rfl, ⟨p4, q4, rfl, h5, h6⟩, h7⟩
  obtain ⟨A4, n4, rfl⟩ := h5.rws.form
  obtain ⟨A5, n5, rfl⟩ := h6.rws.form
  have k5 := H3.out.2.2.1.below h7
  have kz := H3.out.2.2.2.below h7
  have hsz34 : w3.heap.size ≤ w4.heap.size := h7.size
  have i0 := k5.cell 0 _ rfl
  have i1 := k5.cell 1 _ rfl
  have z0 := kz.cell 0 _ rfl
  have z1 := kz.cell 1 _ rfl
  have z2 := kz.cell 2 _ rfl
  have z3 := kz.cell 3 _ rfl
  have z4 := kz.cell 4 _ rfl
  have y0 := kz.free 0
  have y1 := kz.free 1
  have y2 := kz.free 2
  have y3 := kz.free 3
  have y4 := kz.free 4
  have hb4 := H3.out.2.1.trans (h7.mono H3.out.2.1.size)
  have hsz3 : w1.heap.size ≤ w3.heap.size := by have := H3.out.2.2.1.lt; omega
  have H4 := Lib.hid (And.intro (H2.out.2.1.below hb4) (And.intro h5 (And.intro h6 (And.intro kz (H2.out.2.2.2.trans (hb4.mono H2.out.2.2.2.size))))))
  have hsz4 := hb4.size
  clear h5 h6 h7 k5 kz hb4 e0 e1
  go_wp2_with fail
  refine hK.out _ _ ⟨i0, i1⟩ (fun hHeld6 => ?_)
  clear hK K
  try simp only [Act.put, List.setIfInBounds_toArray, List.set_cons_zero, List.set_cons_succ]
  refine take_yes 7 17 rfl rfl (by kernel_rfl) (by kernel_rfl) (by kernel_rfl) (fun _ _ _ h => h) (by assumption) (by rfl) (v := ?_) ?_ ?_
  rotate_left 1
  · (intro w hSw; (try dsimp only at hSw); go_simp; try with_reducible rfl)
  simp only [List.setIfInBounds_toArray, List.set_cons_zero, List.set_cons_succ]
  refine wpAnyH_ready (rs := [8]) (by kernel_rfl) (by simp) ?_
  refine AllReadyH.cons rfl (fun K hK => ?_) AllReadyH.nil
  -- 8:  dst := none, op := Op.store 40 (Operand.tmp 4) (Operand.tmp 17), type := 0
  go_simp
  refine hK.out _ _ (by refine ⟨?_, ?_⟩ <;> refine (far5 w4 w.heap.size _ _ _ _ _ _ (show w.heap.size ≠ w1.heap.size by omega)).trans ?_ <;> assumption) (fun hHeld8 => ?_)
  clear hK K
  try simp only [Act.put, List.setIfInBounds_toArray, List.set_cons_zero, List.set_cons_succ]
  refine wpAnyH_done (by kernel_rfl) ?_ _
  have hch : Chg w4 (((((w4.setCell ⟨w.heap.size, 0, none⟩ (.int .i64 z)).setCell ⟨w.heap.size, 1, none⟩ (.slice A1 RH.length n1)).setCell ⟨w.heap.size, 2, none⟩ (.int .i64 sg.index)).setCell ⟨w.heap.size, 3, none⟩ (.slice A4 sg.parts.length n4)).setCell ⟨w.heap.size, 4, none⟩ (.slice A5 sg.path.length n5)) (fun k => k = w.heap.size) := chg_cell (chg_cell (chg_cell (chg_cell (chg_cell (Chg.refl w4 _) 0 _) 1 _) 2 _) 3 _) 4 _
  have hfin : Blk (((((w4.setCell ⟨w.heap.size, 0, none⟩ (.int .i64 z)).setCell ⟨w.heap.size, 1, none⟩ (.slice A1 RH.length n1)).setCell ⟨w.heap.size, 2, none⟩ (.int .i64 sg.index)).setCell ⟨w.heap.size, 3, none⟩ (.slice A4 sg.parts.length n4)).setCell ⟨w.heap.size, 4, none⟩ (.slice A5 sg.path.length n5)) w.heap.size 40 [.int .i64 z, .slice A1 RH.length n1, .int .i64 sg.index, .slice A4 sg.parts.length n4, .slice A5 sg.path.length n5] := ((((H4.out.2.2.2.1.set 0 _ (by simp)).set 1 _ (by simp)).set 2 _ (by simp)).set 3 _ (by simp)).set 4 _ (by simp)
  generalize ((((w4.setCell ⟨w.heap.size, 0, none⟩ (.int .i64 z)).setCell ⟨w.heap.size, 1, none⟩ (.slice A1 RH.length n1)).setCell ⟨w.heap.size, 2, none⟩ (.int .i64 sg.index)).setCell ⟨w.heap.size, 3, none⟩ (.slice A4 sg.parts.length n4)).setCell ⟨w.heap.size, 4, none⟩ (.slice A5 sg.path.length n5) = w5 at *
  have HF := Lib.hid (And.intro hch hfin)
  clear hch hfin z0 z1 z2 z3 z4 y0 y1 y2 y3 y4 i0 i1 c0 c1
  go_wp2
  obtain ⟨h4, h5, h6, -, h7⟩ := H4.out
  refine bodyPost_ret (v := .agg [.int .i64 z, .slice A1 RH.length n1, .int .i64 sg.index, .slice A4 sg.parts.length n4, .slice A5 sg.path.length n5].toArray) ?_ ?_ ⟨_, rfl, ?_, ?_⟩
  · exact results_cell_row Tryz.results10 _ _ w.heap.size 40 _ (0, 0) _ rfl HF.out.2 under_signed rfl size_signed
  · rfl
  · rw [HSD.out]
    have hz := HF.out.1.size
    have hmono : ∀ g, (S g ∨ (w3.heap.size ≤ g ∧ g < w4.heap.size)) → S g ∨ (w.heap.size ≤ g ∧ g < w5.heap.size) := fun g hg => by
      rcases hg with h | h
      · exact .inl h
      · exact .inr ⟨by omega, by omega⟩
    have hne : ∀ g, (S g ∨ (w3.heap.size ≤ g ∧ g < w4.heap.size)) → ¬ (g = w.heap.size) := fun g hg e => by
      rcases hg with h | h
      · have := HSL.out g h; omega
      · omega
    exact ⟨_, _, _, rfl, (h4.chg HF.out.1 (fun g hg e => by have h1 : w.heap.size < g := hg.1; have h2 : g = w.heap.size := e; omega)).mono (fun g hg => .inr ⟨by have h1 : w.heap.size < g := hg.1; omega, by have h1 : g < w1.heap.size := hg.2; omega⟩), (h5.chg HF.out.1 hne).mono hmono, (h6.chg HF.out.1 hne).mono hmono⟩
  · exact h7.trans (HF.out.1.below h7.size (fun k hk => by omega))
/-- The keys of owners 1 .. n. -/
def witS (n : Nat) : List (List UInt8) := (List.range n).map (fun i : Nat => ownerS (seedS ((i : Int) + 1)))
theorem witS_succ (n : Nat) : witS (n + 1) = witS n ++ [ownerS (seedS ((n : Int) + 1))] := by simp [witS, List.range_succ]
theorem witS_length (n : Nat) : (witS n).length = n := by simp [witS]
def polS (n : Nat) (q : Int) : PolD := ⟨ownerS (seedS 0), witS n, q⟩
theorem pol_apart (a b : Nat) (S : Nat → Prop) (hS : ∀ g, S g → g < a) (h : a + 1 < b) (x n : Nat) (hx : S x ∨ (b ≤ x ∧ x < n)) (e : x = a) : False := by
  rcases hx with h1 | h1
  · have := hS x h1; omega
  · omega
/-- The law's policy under way: its block C, its row. -/
def PoI (S : Nat → Prop) (w w2 wr : World) (C : Nat) (lv : Value) (q : Int) (n : Nat) : Prop := Chg w2 wr (fun k => k = C ∨ w2.heap.size ≤ k) ∧ ∃ rv, Blk wr C 29 [lv, rv, .int .i64 q] ∧ OwnT S wr w.heap.size w2.heap.size rv (witS n)
set_option maxRecDepth 100000 in
set_option maxHeartbeats 4000000 in
theorem lpolicy_any (S : Nat → Prop) (n : Nat) (q : Int) (v : Value) (hn : n ≤ 10) (w : World) (ho : OwnersS S w v (n + 1)) (hS : ∀ g, S g → g < w.heap.size) :
    Calls Tryz.prog 8 #[v, .int .i64 q] w fun e w' => ∃ v', e = .returned v' ∧ PolV w' v' (polS n q) ∧ Below w.heap.size w w' := by
  obtain ⟨i0, hi0, hz0, hz1, hz2⟩ := info_parts info_bytes
  obtain ⟨A, c, rfl⟩ := ho.form
  have HS := Lib.hid hS
  clear hS
  have HO := Lib.hid ho
  obtain ⟨g, o, b0, rfl, hg, -, hcap, hc0, ho0⟩ := ho.at' 0 (by omega)
  have HP0 := Lib.hid (fun wz (hz : OwnerS (fun x => S x ∧ x < w.heap.size) wz b0 (seedS ((0 : Nat) : Int))) => rpub_s _ b0 (seedS ((0 : Nat) : Int)) wz hz)
  have HO0 := Lib.hid (ho0.mono (T := fun x => S x ∧ x < w.heap.size) (fun x hx => ⟨hx, HS.out x hx⟩))
  have hb0 := (Below.refl w.heap.size w).alloc (Nat.le_refl _) (.cells #[.slice none 0 0, .slice none 0 0, .int .i64 0] 29)
  have hk0 := Blk.new w 29 [.slice none 0 0, .slice none 0 0, .int .i64 0]
  have HW := Lib.hid (And.intro hk0 hb0)
  have hp0 := (hb0.cell (p := ⟨g, o + 0, none⟩) hg).trans hc0
  have HL0 := Lib.hid (ownerS_length (seedS ((0 : Nat) : Int)))
  clear ho ho0 hb0 hk0 hc0
  generalize hK0 : ownerS (seedS ((0 : Nat) : Int)) = K0 at *
  have HE0 : Hid (ownerS (seedS 0) = K0) := Lib.hid hK0
  clear hK0
  rw [Nat.add_zero] at hp0
  go_enter Tryz.func8, Tryz.ntmps8
  go_wp2_with fail
  refine (HP0.out _ (HO0.out.chg (Chg.of_below (S := fun _ => False) HW.out.2) (fun _ _ h => h))).mono ?_
  rintro e w' ⟨v1, rfl, h1, rfl⟩
  obtain ⟨A1, c1, rfl⟩ := h1.1.form
  have H1 := Lib.hid (show BysF (fun x => S x ∧ x < w.heap.size) (w.alloc (.cells #[.slice none 0 0, .slice none 0 0, .int .i64 0] 29)) (.slice A1 K0.length c1) K0 from h1)
  clear h1 hp0
  go_wp2
  refine code_at (fun w2 => Blk w2 w.heap.size 29 [.slice none 0 0, .slice none 0 0, .int .i64 0] ∧ Blk w2 (w.heap.size + 1) 29 [.slice A1 K0.length c1, .slice none 0 0, .int .i64 q] ∧ Below w.heap.size w w2 ∧ BysF (fun x => S x ∧ x < w.heap.size) w2 (.slice A1 K0.length c1) K0) ?_ ?_
  · exact ⟨(blk2 w _ _ _ _ _ rfl).2.1, (blk2 w _ _ _ _ _ rfl).2.2, (blk2 w _ _ _ _ _ rfl).1, H1.out.below ((Below.refl _ _).alloc (Nat.le_refl _) _)⟩
  rintro w2 ⟨k0, k1, k2, kB⟩
  have hsz2 := k1.lt
  have H2 := Lib.hid (And.intro k0 (And.intro k1 (And.intro k2 (And.intro (HO.out.below k2) kB))))
  have hwits0 : witS 0 = [] := rfl
  have HI0 : Hid (PoI S w w2 w2 (w.heap.size + 1) (.slice A1 K0.length c1) q 0) := Lib.hid ⟨Chg.refl _ _, _, k1, by rw [hwits0]; exact OwnT.nil _ _ _ _⟩
  clear k0 k1 k2 kB hwits0
  go_wp2
  go_loopw [6] (fun v6 wr => ∃ j : Nat, v6 = .int .i64 ((j : Int) + 1) ∧ j ≤ n ∧ Hid (PoI S w w2 wr (w.heap.size + 1) (.slice A1 K0.length c1) q j)) (fun v _ => n + 1 - (intOf v).toNat)
  case atStart => exact ⟨0, rfl, Nat.zero_le _, HI0⟩
  case round =>
    obtain ⟨j, rfl, hj, HJ⟩ := hrel
    clear HI0
    by_cases hlt : j < n
    · have hnl : ((j : Int) + 1) < ((n + 1 : Nat) : Int) := by omega
      obtain ⟨g', o', b, e9, hg', -, -, hcb, hob⟩ := HO.out.at' (j + 1) (by omega)
      injection e9 with e9
      injection e9 with e9a e9b
      subst e9a e9b
      obtain ⟨hch, rv, hkC, hov⟩ := HJ.out
      have hbel : Below w.heap.size w wr := H2.out.2.2.1.trans (hch.below H2.out.2.2.1.size (fun k hk => by rcases hk with e | e <;> omega))
      have hp1 := (hbel.cell (p := ⟨g, o + (j + 1), none⟩) hg).trans hcb
      have HP := Lib.hid (fun (wz : World) (hz : OwnerS (fun x => S x ∧ x < w.heap.size) wz b (seedS ((j + 1 : Nat) : Int))) => rpub_s _ b (seedS ((j + 1 : Nat) : Int)) wz hz)
      have HOB := Lib.hid ((hob.mono (T := fun x => S x ∧ x < w.heap.size) (fun x hx => ⟨hx, HS.out x hx⟩)).chg (Chg.of_below (S := fun _ => False) hbel) (fun _ _ h => h))
      have HWT : Hid (witS (j + 1) = witS j ++ [ownerS (seedS ((j + 1 : Nat) : Int))]) := Lib.hid (witS_succ j)
      have HLN := Lib.hid (ownerS_length (seedS ((j + 1 : Nat) : Int)))
      have hal : (witS j).length ≤ 1000 := by rw [witS_length]; omega
      have HJL := Lib.hid (witS_length j)
      generalize ownerS (seedS ((j + 1 : Nat) : Int)) = KN at *
      obtain ⟨A8, c8, rfl⟩ := hov.rws.form
      have r1 := hkC.cell 1 _ rfl
      have hCr := hkC.lt
      have hzr := hch.size
      obtain ⟨us, hu1, hu2⟩ := hov
      have HK := Lib.hid (And.intro hch (And.intro hkC (And.intro hbel (And.intro hu1 hu2))))
      clear hch hkC hbel hu1 hu2 hcb hob HJ
      generalize witS j = Ls at *
      have hj0 : (0 : Int) ≤ (j : Int) + 1 := by omega
      have hj1 : (j : Int) + 1 < (n : Int) + 1 := by omega
      have hjt : ((j : Int) + 1).toNat = j + 1 := by omega
      go_wp2
      go_region_law (first
        | (go_simp; go_at_call 20; refine (HP.out wr.drew (HOB.out.chg (Chg.of_below (S := fun _ => False) (Below.refl _ _).drew) (fun _ _ h => h))).mono ?_
           rintro e w5 ⟨v5, rfl, h5, rfl⟩
           obtain ⟨A5, c5, rfl⟩ := h5.1.form
           have H5 := Lib.hid (show BysF (fun x => S x ∧ x < w.heap.size) wr (.slice A5 KN.length c5) KN from ⟨h5.1, h5.2⟩)
           clear h5)
        | (refine step_append_lie rfl (.tmp 20) (.tmp 26) 27 rfl w2.heap.size 26 i0 (.slice none 0 0) 1 24 Tryz.underlying27 hi0 hz0 hz1 hz2 rfl (by decide) _ Ls.length us rfl (by first | exact World.ownsRow.alloc HK.out.2.2.2.1 _ | exact HK.out.2.2.2.1) _ 1 [.slice A5 KN.length c5] rfl (by first | exact news1 _ 26 _ rfl | exact news1_drew _ 26 _ rfl) (by unfold maxLen; omega) (by omega) (by simp; omega) ?_
           intro v3 W3 hown3 hgrow3' hlie3
           obtain ⟨A3, c3, rfl⟩ := (Sho.own hown3).form
           have hgrow3 : (wr.alloc (.cells #[.slice A5 KN.length c5] 26)).grownBy W3 (Value.slice A8 Ls.length c8).ownBlock := ⟨hgrow3'.os, hgrow3'.tape, hgrow3'.output, hgrow3'.size, hgrow3'.block⟩
           have hgr : Chg wr W3 (fun k => w2.heap.size ≤ k) := ((Chg.refl wr _).alloc _).trans (Chg.of_grown hgrow3) (fun i _ h => (World.ownsRow.lt HK.out.2.2.2.1 i h.symm).1)
           have H3 : Hid (OwnT S W3 w.heap.size w2.heap.size (.slice A3 (Ls.length + 1) c3) (Ls ++ [KN]) ∧ Blk W3 (w.heap.size + 1) 29 [.slice A1 K0.length c1, .slice A8 Ls.length c8, .int .i64 q] ∧ Chg wr W3 (fun k => w2.heap.size ≤ k)) := Lib.hid ⟨OwnT.push (w := wr) (by omega) HK.out.2.2.2.1 HK.out.2.2.2.2 H5.out.1 (fun h0 x hx => H5.out.2 h0 x hx) hown3 hgrow3, HK.out.2.1.chg hgr (by omega), hgr⟩
           have t1 := H3.out.2.1.cell 1 _ rfl
           have f1 := H3.out.2.1.free 1
           clear hown3 hgrow3 hgrow3' hlie3 hgr))
      all_goals
        have hset : Chg W3 (W3.setCell ⟨w.heap.size + 1, 1, none⟩ (.slice A3 (Ls.length + 1) c3)) (fun k => k = w.heap.size + 1) := chg_cell (Chg.refl W3 _) 1 _
        have HN : Hid (PoI S w w2 (W3.setCell ⟨w.heap.size + 1, 1, none⟩ (.slice A3 (Ls.length + 1) c3)) (w.heap.size + 1) (.slice A1 K0.length c1) q (j + 1)) := Lib.hid ⟨(HK.out.1.trans H3.out.2.2 (fun i _ h => .inr h)).trans hset (fun i _ h => .inl h), _, H3.out.2.1.set 1 _ (by simp), by rw [HWT.out]; exact H3.out.1.chg2 hset (by omega)⟩
        clear hset t1 f1
        go_wp2
        go_roundw
        case rel => exact ⟨j + 1, by go_num, by omega, HN⟩
        case measure => simp [intOf]; omega
    · obtain rfl : j = n := by omega
      have hnl : ¬ ((j : Int) + 1) < ((j + 1 : Nat) : Int) := by omega
      have hnl2 : ¬ (j : Int) + 1 < (j : Int) + 1 := by omega
      obtain ⟨hch, rv, hkC, hov⟩ := HJ.out
      obtain ⟨A8, c8, rfl⟩ := hov.rws.form
      have r0 := hkC.cell 0 _ rfl
      have r1 := hkC.cell 1 _ rfl
      have r2 := hkC.cell 2 _ rfl
      have hkZ := H2.out.1.chg hch (by have := H2.out.1.lt; omega)
      have z0 := hkZ.cell 0 _ rfl
      have z1 := hkZ.cell 1 _ rfl
      have z2 := hkZ.cell 2 _ rfl
      have y0 := hkZ.free 0
      have y1 := hkZ.free 1
      have y2 := hkZ.free 2
      have hbel : Below w.heap.size w wr := H2.out.2.2.1.trans (hch.below H2.out.2.2.1.size (fun k hk => by rcases hk with e | e <;> omega))
      have hkB := H2.out.2.2.2.2.chg hch (fun x hx e => by have h1 : x < w.heap.size := hx.2; rcases e with e | e <;> omega)
      have HK := Lib.hid (And.intro hbel (And.intro hkZ (And.intro hov hkB)))
      have HW9 := Lib.hid (witS_length j)
      clear hch hkC hov hkZ hbel hkB HJ
      generalize hWE : witS j = WS at *
      have HWE := Lib.hid hWE
      clear hWE
      go_wp2
      have hfc : Chg wr (((wr.setCell ⟨w.heap.size, 0, none⟩ (.slice A1 K0.length c1)).setCell ⟨w.heap.size, 1, none⟩ (.slice A8 WS.length c8)).setCell ⟨w.heap.size, 2, none⟩ (.int .i64 q)) (fun k => k = w.heap.size) := chg_cell (chg_cell (chg_cell (Chg.refl wr _) 0 _) 1 _) 2 _
      have hfin : Blk (((wr.setCell ⟨w.heap.size, 0, none⟩ (.slice A1 K0.length c1)).setCell ⟨w.heap.size, 1, none⟩ (.slice A8 WS.length c8)).setCell ⟨w.heap.size, 2, none⟩ (.int .i64 q)) w.heap.size 29 [.slice A1 K0.length c1, .slice A8 WS.length c8, .int .i64 q] := ((HK.out.2.1.set 0 _ (by simp)).set 1 _ (by simp)).set 2 _ (by simp)
      have hpe : polS j q = ⟨K0, WS, q⟩ := by unfold polS; rw [HE0.out, HWE.out]
      refine bodyPost_ret (v := .agg [.slice A1 K0.length c1, .slice A8 WS.length c8, .int .i64 q].toArray) ?_ ?_ ⟨_, rfl, ?_, ?_⟩
      · exact results_cell_row Tryz.results8 _ _ w.heap.size 29 _ (0, 0) _ rfl hfin under_policy rfl size_policy
      · rfl
      · rw [hpe]
        refine ⟨_, _, rfl, ?_, ?_⟩
        · exact (HK.out.2.2.2.chg hfc (fun x hx e => by have h1 : x < w.heap.size := hx.2; have h2 : x = w.heap.size := e; omega)).1
        · exact (HK.out.2.2.1.foot.chg hfc (fun x hx e => pol_apart w.heap.size w2.heap.size S HS.out hsz2 x wr.heap.size hx e)).rws
      · exact HK.out.1.trans (hfc.below HK.out.1.size (fun k hk => by omega))
end Go.Proofs.YtlkgeifmppadmaaGreat
